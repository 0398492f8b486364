/-
 Maps of integers by integers in a block of the call's own; a range over one, in whatever order. No condition.
-/
import Derived.Maps.RangeRun
import Derived.MapKept
import Derived.WalkKit
import Derived.ProofKit
import Derived.OpenShut
import Derived.WideKeyArgs
import Derived.LaidLaws
import Derived.Deep.DeepHandedRow
import Derived.Deep.DeepWitnessRowRef
import Derived.Lib.LaidTab
import Derived.Deep.Slices
import Derived.Shelf.SlSortCmp.Whole1
import Derived.Lib.AppendZeros
import Derived.Lib.AppendStr
import Derived.Defers
import Derived.Recover
import Derived.RangeFuncLeaves
import Derived.RangeFuncSeq
import Derived.Lib.Bytealg
import Derived.Scope
import Derived.Test.YtpbcafkcfobngaaGreatDoorOutboxM1
variable {P:Go.Program}{n:Nat}{ops rest:List Go.Oper}{N:Go.Pn.Val->Go.World->Prop}{Z:List Go.PanicEntry->Go.World->Prop}{f:Go.Pn.Val}{w:Go.World}
section
namespace Go.Pn
open Go.RowKit
def mget (es:List (Int×Int))(k:Int):Int:=match es.find? (λp=>p.1==k) with|some p=>p.2|none=>0
def mput:List (Int×Int)->Int->Int->List (Int×Int)
 |[],k,v=>[(k,v)]
 |p::r,k,v=>if p.1=k then (k,v)::r else p::mput r k v
def keyI:Value->Int|.int _ a=>a|_=>0
def pairOf (e:MapEntry):Int×Int:=(keyI e.key,keyI e.val)
def IntE (e:MapEntry):Prop:=e.key=.int .i64 (keyI e.key)∧e.val=.int .i64 (keyI e.val)
structure Ents (ens:List MapEntry) (clock:Nat) (es:List (Int×Int)):Prop where
 ints:∀e∈ens,IntE e
 pairs:ens.map pairOf=es
 old:∀e∈ens,e.born<clock
 born:(ens.map (·.born)).Nodup
 keys:(es.map (·.1)).Nodup
def MapO (w:World)(b:Nat)(es:List (Int×Int)):Prop:=∃(ens:Array MapEntry) (clock:Nat),w.heap[b]? =some (.map ens clock)∧Ents ens.toList clock es
def IterO (w:World)(r b:Nat)(es done:List (Int×Int)):Prop:=r≠b∧∃(ens:Array MapEntry) (clock:Nat) (seen:Array Nat) (ds:List MapEntry),
 w.heap[b]? =some (.map ens clock)∧Ents ens.toList clock es∧w.heap[r]? =some (.mapIter (some b) clock seen clock)∧seen.toList=ds.map (·.born)∧(∀e∈ds,e∈ens.toList)∧(ds.map (·.born)).Nodup∧done=ds.map pairOf
section
variable {w w':World}{b r:Nat}{es done:List (Int×Int)}{M:Nat->Prop}
theorem MapO.lt (h:MapO w b es):b<w.heap.size:=by obtain ⟨ens,clock,h1,_⟩:=h;exact lt_of_some h1
theorem MapO.kM (h:MapO w b es)(e:Ext M w w')(hM:¬M b):MapO w' b es:=by
 have hl:=h.lt;obtain ⟨ens,clock,h1,h2⟩:=h;exact ⟨ens,clock,(e.block b hl hM).trans h1,h2⟩
theorem MapO.kO (h:MapO w b es)(e:Ext M w w')(hM:¬M b:=by intro h;(try dsimp only at h);omega):MapO w' b es:=MapO.kM h e hM
theorem MapO.L (h:MapO w b es)(e:Le w w'):MapO w' b es:=h.kM e not_false
theorem MapO.keys (h:MapO w b es):(es.map (·.1)).Nodup:=by obtain ⟨ens,clock,_,h2⟩:=h;exact h2.keys
theorem IterO.lt (h:IterO w r b es done):r<w.heap.size∧b<w.heap.size:=by
 obtain ⟨_,ens,clock,seen,ds,h1,_,h3,_⟩:=h;exact ⟨lt_of_some h3,lt_of_some h1⟩
theorem IterO.kM (h:IterO w r b es done)(e:Ext M w w')(hM:∀k,(k=r∨k=b)->¬M k):IterO w' r b es done:=by
 have hl:=h.lt;obtain ⟨hn,ens,clock,seen,ds,h1,h2,h3,h4⟩:=h;exact ⟨hn,ens,clock,seen,ds,(e.block b hl.2 (hM b (.inr rfl))).trans h1,h2,(e.block r hl.1 (hM r (.inl rfl))).trans h3,h4⟩
theorem IterO.keepA (h:IterO w r b es done)(e:Ext M w w')(hM:∀k,(k=r∨k=b)->¬M k:=by intro k hk h;first|(have q:=hF k hk;(try dsimp only at h);omega)|(have q:=hF2 k hk;(try dsimp only at h);omega)|(have q:=hFb k hk;(try dsimp only at h);omega)|((try dsimp only at hk);(try dsimp only at h);omega)):IterO w' r b es done:=IterO.kM h e hM
theorem IterO.L (h:IterO w r b es done)(e:Le w w'):IterO w' r b es done:=h.kM e λ_ _=>not_false
theorem IterO.map (h:IterO w r b es done):MapO w b es:=by
 obtain ⟨hn,ens,clock,seen,ds,h1,h2,_⟩:=h;exact ⟨ens,clock,h1,h2⟩
theorem mput_keys {k v:Int}:∀{es:List (Int×Int)},(es.map (·.1)).Nodup->((mput es k v).map (·.1)).Nodup
 |[],_=>by simp[mput]
 |p::r,h=>by
  have h':=List.nodup_cons.1 h;unfold mput
  split
  ·rename_i hk
   subst hk;exact h
  ·rename_i hk
   refine List.nodup_cons.2 ⟨λhm=>?_,mput_keys h'.2⟩;have key:∀(l:List (Int×Int)),p.1∈(mput l k v).map (·.1)->p.1∈l.map (·.1):=by
    intro l
    induction l with
    |nil=>intro q;simp[mput] at q;exact absurd q hk
    |cons x l ih=>
     intro q;unfold mput at q
     split at q
     ·rename_i hx
      simp only[List.map_cons,List.mem_cons] at q ⊢;rcases q with q|q
      ·exact absurd q hk
      ·exact .inr q
     ·simp only[List.map_cons,List.mem_cons] at q ⊢
      rcases q with q|q
      ·exact .inl q
      ·exact .inr (ih q)
   exact h'.1 (key r hm)
theorem modify_set {α:Type}(g:α->α):∀{l:List α} {j:Nat} {e:α},l[j]? =some e->l.modify j g=l.set j (g e)
 |x::l,0,e,h=>by
  simp only[List.getElem?_cons_zero,Option.some.injEq] at h;subst h
  rfl
 |x::l,j+1,e,h=>by
  simp only[List.getElem?_cons_succ] at h;have:=modify_set g h;simp only[List.modify_succ_cons,List.set_cons_succ,this]
theorem nodup_of_map {α β:Type}(g:α->β){l:List α}(h:(l.map g).Nodup):l.Nodup:=by
 have:=List.pairwise_map.1 h;exact this.imp λhab e=>hab (congrArg g e)
theorem len_of_sub {α:Type}:∀{l m:List α},l.Nodup->(∀x∈l,x∈m)->l.length<=m.length
 |[],_,_,_=>Nat.zero_le _
 |x::l,m,h,hs=>by
  have h':=List.nodup_cons.1 h;obtain ⟨a,b,rfl⟩:=List.append_of_mem (hs x (.head _));have:=len_of_sub (m:=a++b) h'.2 λy hy=>by
   have q:=hs y (.tail _ hy);simp only[List.mem_append,List.mem_cons] at q ⊢;rcases q with q|q|q
   ·exact .inl q
   ·exact absurd (q ▸ hy) h'.1
   ·exact .inr q
  simp only[List.length_append,List.length_cons] at this ⊢
  omega
theorem isKey_int (k:Int):MapKept.IsKey (TypeDesc.int .i64) (.int .i64 k):=by simp[MapKept.IsKey]
theorem Ents.isKey {ens:List MapEntry}{clock:Nat}(h:Ents ens clock es):∀x∈ens,MapKept.IsKey (TypeDesc.int .i64) x.key:=λx hx=>by rw[(h.ints x hx).1];exact isKey_int _
theorem Ents.miss {ens:List MapEntry}{clock:Nat}{k:Int}(h:Ents ens clock es)(hk:∀x∈ens,x.key≠.int .i64 k):∀p∈es,p.1≠k:=by
 intro p hp e;rw[<-h.pairs] at hp;obtain ⟨x,hx,rfl⟩:=List.mem_map.1 hp;exact hk x hx (by rw[(h.ints x hx).1];exact congrArg _ e)
theorem mget_miss {k:Int}(h:∀p∈es,p.1≠k):mget es k=0:=by
 unfold mget;rw[List.find?_eq_none.2 λp hp=>by simpa using h p hp]
theorem mget_at:∀{es:List (Int×Int)} {j:Nat} {p:Int×Int},(es.map (·.1)).Nodup->es[j]? =some p->mget es p.1=p.2
 |q::r,0,p,_,h=>by
  simp only[List.getElem?_cons_zero,Option.some.injEq] at h;subst h
  simp[mget]
 |q::r,j+1,p,hn,h=>by
  have h':=List.nodup_cons.1 hn;simp only[List.getElem?_cons_succ] at h;have hm:p.1∈r.map (·.1):=List.mem_map.2 ⟨p,List.mem_of_getElem? h,rfl⟩;have hne:¬q.1=p.1:=λe=>h'.1 (show q.1∈r.map (·.1) by rw[e];exact hm)
  have:=mget_at h'.2 h;unfold mget at this ⊢;rw[List.find?_cons_of_neg (by simpa using hne)];exact this
theorem mput_miss {k v:Int}:∀{es:List (Int×Int)},(∀p∈es,p.1≠k)->mput es k v=es++[(k,v)]
 |[],_=>rfl
 |p::r,h=>by
  unfold mput;rw[if_neg (h p (.head _)),mput_miss λq hq=>h q (.tail _ hq)]
  rfl
theorem mput_at {k v:Int}:∀{es:List (Int×Int)} {j:Nat} {p:Int×Int},(es.map (·.1)).Nodup->es[j]? =some p->p.1=k->mput es k v=es.set j (k,v)
 |q::r,0,p,_,h,e=>by
  simp only[List.getElem?_cons_zero,Option.some.injEq] at h;subst h;unfold mput;rw[if_pos e]
  rfl
 |q::r,j+1,p,hn,h,e=>by
  have h':=List.nodup_cons.1 hn;simp only[List.getElem?_cons_succ] at h;have hm:p.1∈r.map (·.1):=List.mem_map.2 ⟨p,List.mem_of_getElem? h,rfl⟩;have hne:¬q.1=k:=λe2=>h'.1 (show q.1∈r.map (·.1) by rw[e2.trans e.symm];exact hm)
  unfold mput;rw[if_neg hne,mput_at h'.2 h e]
  rfl
end
section
variable
 {x y z:Operand}{t tr kt et:TypeId}{d:Nat}{pos:String}{after:Array Edge}{b r:Nat}{es done:List (Int×Int)}{k v:Int}
theorem O.makeM (h:∀b w',w.heap.size<=b->MapO w' b []->Le w w'->O P n ops rest N Z (upd f d (.map (some b))) w'):
 O P n ops (ZO d (.makeMap t none) tr pos after::rest) N Z f w:=by
 refine O.val (v:=.map (some w.heap.size)) (w':=w.alloc (.map #[] 0)) rfl rfl ?_ (h w.heap.size (w.alloc (.map #[] 0)) (Nat.le_refl _) ⟨#[],0,heap_alloc_new w _,⟨by simp,rfl,by simp,by simp,by simp⟩⟩ (Le.alloc _ _))
 rfl
theorem O.lookupM (hm:P.underlying t=some (.map kt et))(hk:P.underlying kt=some (.int .i64))(hz:(zeroValue et).run P w=.ok (.int .i64 0) w)(hx:ev n f x=.map (some b))(hy:ev n f y=.int .i64 k)(ho:MapO w b es)
 (h:O P n ops rest N Z (upd f d (.int .i64 (mget es k))) w):
 O P n ops (ZO d (.lookup t x y false) tr pos after::rest) N Z f w:=by
 refine O.val rfl rfl ?_ h;have h3:execOp (ev n f) (ZO d (.lookup t x y false) tr pos after)=(do pure (.value (<-Instr.lookup t (ev n f x) (ev n f y) false))):=rfl;rw[h3,Sem.run_bind,hx,hy];obtain ⟨ens,clock,hb,he⟩:=ho;have h4:(Instr.lookup t (.map (some b)) (.int .i64 k) false).run P w=.ok (.int .i64 (mget es k)) w:=by
  rcases MapKept.findNow_spec (isKey_int k) ens.toList 0 he.isKey with ⟨h1,h2⟩|⟨j,e,h1,h2,h5⟩
  ·simp [Instr.lookup,run_underlying hm,MapKept.run_getObj_map hb,MapKept.run_checkKey hk (isKey_int k),MapKept.run_findKey hk h1,hz,Result.andThen,mget_miss (he.miss h2)]
  ·have hi:=he.ints e (List.mem_of_getElem? h2)
   have hp:es[j]? =some (pairOf e):=by rw[<-he.pairs,List.getElem?_map,h2];rfl
   have h6:(pairOf e).1=k:=by
    show keyI e.key=k;rw[h5]
    rfl
   have h7:=mget_at he.keys hp;rw[h6] at h7
   simp[Instr.lookup,run_underlying hm,MapKept.run_getObj_map hb,MapKept.run_checkKey hk (isKey_int k),MapKept.run_findKey hk h1,Result.andThen,h7]
   exact hi.2
 rw[h4]
 rfl
theorem O.updateM (hm:P.underlying t=some (.map kt et))(hk:P.underlying kt=some (.int .i64))(hx:ev n f x=.map (some b))(hy:ev n f y=.int .i64 k)(hv:ev n f z=.int .i64 v)(ho:MapO w b es)
 (h:∀w',MapO w' b (mput es k v)->Ext (λi=>i=b) w w'->w'.heap.size=w.heap.size->O P n ops rest N Z f w'):
 O P n ops ({dst:=.none,op:=.mapUpdate t x y z,type:=tr,pos:=pos,after:=after,guard:=.none}::rest) N Z f w:=by
 obtain ⟨ens,clock,hb,he⟩:=ho;have hlt:=lt_of_some hb;have key:∃ens' clock',(Instr.mapUpdate t (.map (some b)) (.int .i64 k) (.int .i64 v)).run P w=.ok () {w with heap:=w.heap.setIfInBounds b (.map ens' clock')}∧Ents ens'.toList clock' (mput es k v):=by
  rcases MapKept.findNow_spec (isKey_int k) ens.toList 0 he.isKey with ⟨h1,h2⟩|⟨j,e,h1,h2,h5⟩
  ·refine ⟨ens.push {key:=.int .i64 k,val:=.int .i64 v,born:=clock},clock+1,?_,?_⟩
   ·simp [Instr.mapUpdate,run_underlying hm,MapKept.run_getObj_map hb,MapKept.run_checkKey hk (isKey_int k),MapKept.run_findKey hk h1,MapKept.run_setObj_map _ hb,Result.andThen]
   ·rw [mput_miss (he.miss h2)]
    have hkk:=mput_keys (k:=k) (v:=v) he.keys;rw[mput_miss (he.miss h2)] at hkk;refine ⟨λq hq=>?_,by simp[he.pairs,pairOf,keyI],λq hq=>?_,?_,hkk⟩
    ·simp only[Array.toList_push,List.mem_append,List.mem_singleton] at hq
     rcases hq with hq|rfl
     ·exact he.ints q hq
     ·exact ⟨rfl,rfl⟩
    ·simp only[Array.toList_push,List.mem_append,List.mem_singleton] at hq
     rcases hq with hq|rfl
     ·exact Nat.lt_succ_of_lt (he.old q hq)
     ·exact Nat.lt_succ_self _
    ·simp only[Array.toList_push,List.map_append,List.map_cons,List.map_nil]
     refine List.nodup_append.2 ⟨he.born,by simp,λq hq q2 hq2 e=>?_⟩;simp only[List.mem_singleton] at hq2;obtain ⟨u,hu,rfl⟩:=List.mem_map.1 hq;have:=he.old u hu
     omega
  ·have hj:ens[j]? =some e:=by simpa using h2
   have hi:=he.ints e (List.mem_of_getElem? h2);have hp:es[j]? =some (pairOf e):=by rw[<-he.pairs,List.getElem?_map,h2];rfl
   have h6:(pairOf e).1=k:=by
    show keyI e.key=k;rw[h5]
    rfl
   have hlist:(ens.modify j (λe'=>{e' with key:=.int .i64 k,val:=.int .i64 v})).toList=ens.toList.set j {e with key:=.int .i64 k,val:=.int .i64 v}:=by
    rw[Array.toList_modify,modify_set _ h2]
   refine ⟨ens.modify j (λe'=>{e' with key:=.int .i64 k,val:=.int .i64 v}),clock,?_,?_⟩
   ·simp [Instr.mapUpdate,run_underlying hm,MapKept.run_getObj_map hb,MapKept.run_checkKey hk (isKey_int k),MapKept.run_findKey hk h1,hj,h5,MapKept.run_keyThatStays (isKey_int k),MapKept.run_setObj_map _ hb,Result.andThen]
   ·rw [hlist,mput_at he.keys hp h6]
    have hkk:=mput_keys (k:=k) (v:=v) he.keys;rw[mput_at he.keys hp h6] at hkk;have hjl:=(List.getElem?_eq_some_iff.1 h2).1;have hmem:∀q∈ens.toList.set j {e with key:=.int .i64 k,val:=.int .i64 v},q∈ens.toList∨q={e with key:=.int .i64 k,val:=.int .i64 v}:=λq hq=>List.mem_or_eq_of_mem_set hq
    refine ⟨λq hq=>?_,?_,λq hq=>?_,?_,hkk⟩
    ·rcases hmem q hq with hq|rfl
     ·exact he.ints q hq
     ·exact ⟨rfl,rfl⟩
    ·rw [List.map_set,he.pairs]
     rfl
    ·rcases hmem q hq with hq|rfl
     ·exact he.old q hq
     ·exact he.old e (List.mem_of_getElem? h2)
    ·have e2:(ens.toList.set j {e with key:=.int .i64 k,val:=.int .i64 v}).map (·.born)=ens.toList.map (·.born):=by
      rw[List.map_set]
      apply List.ext_getElem?
      intro i;rw[List.getElem?_set]
      split
      ·rename_i hij
       subst hij;rw[List.length_map,if_pos hjl,List.getElem?_map,h2]
       rfl
      ·rfl
     rw[e2];exact he.born
 obtain ⟨ens',clock',hrun,he'⟩:=key;refine O.act (w':={w with heap:=w.heap.setIfInBounds b (.map ens' clock')}) rfl rfl ?_ (h _ ⟨ens',clock',(MapKept.heap_set hb).1,he'⟩ ⟨rfl,rfl,rfl,by simp,λi _ hi=>(MapKept.heap_set hb).2 i hi⟩ (by simp));have h3:execOp (ev n f) {dst:=.none,op:=.mapUpdate t x y z,type:=tr,pos:=pos,after:=after,guard:=.none}=(do Instr.mapUpdate t (ev n f x) (ev n f y) (ev n f z);pure .skip):=rfl;rw[h3,Sem.run_bind,hx,hy,hv,hrun]
 rfl
theorem O.rangeM (hm:P.underlying t=some (.map kt et))(hx:ev n f x=.map (some b))(ho:MapO w b es)
 (h:∀r w',w.heap.size<=r->IterO w' r b es []->Le w w'->O P n ops rest N Z (upd f d (.pointer (some ⟨r,0,none⟩))) w'):
 O P n ops (ZO d (.range t x) tr pos after::rest) N Z f w:=by
 have hlt:=ho.lt;obtain ⟨ens,clock,hb,he⟩:=ho;refine O.val rfl rfl ?_ (h w.heap.size (w.alloc (.mapIter (some b) clock #[] clock)) (Nat.le_refl _) ⟨by omega,ens,clock,#[],[],(heap_alloc_old w _ (h:=hlt)).trans hb,he,heap_alloc_new w _,rfl,by simp,by simp,rfl⟩ (Le.alloc _ _));have h3:execOp (ev n f) (ZO d (.range t x) tr pos after)=(do pure (.value (<-Instr.range t (ev n f x)))):=rfl;rw[h3,Sem.run_bind,hx,run_range_map w t kt et b ens clock hm hb]
 rfl
theorem O.nextM (hx:ev n f x=.pointer (some ⟨r,0,none⟩))(ho:IterO w r b es done)
 (h0:done.Perm es->O P n ops rest N Z (upd f d (.tuple #[.bool false])) w)
 (h1:∀p w',p∈es->p∉done->done.length<es.length->IterO w' r b es (done++[p])->Ext (λi=>i=r) w w'->w'.heap.size=w.heap.size->O P n ops rest N Z (upd f d (.tuple #[.bool true,.int .i64 p.1,.int .i64 p.2])) w'):
 O P n ops (ZO d (.next x false) tr pos after::rest) N Z f w:=by
 have hlt:=ho.lt;obtain ⟨hn,ens,clock,seen,ds,hb,he,hr,hs,hds,hnd,rfl⟩:=ho;have h3:execOp (ev n f) (ZO d (.next x false) tr pos after)=(do pure (.value (<-Instr.next (ev n f x) false tr))):=rfl;have hdn:ds.Nodup:=nodup_of_map _ hnd;have hen:ens.toList.Nodup:=nodup_of_map _ he.born;have hsee:∀e:MapEntry,seen.contains e.born=true↔e.born∈ds.map (·.born):=by
  intro e;rw[<-hs]
  simp
 rcases run_next_at (P:=P) w tr r b clock clock seen ens clock hr hb he.old (Nat.le_refl _) with ⟨h5,hrun⟩|⟨e,hel,w1,hw1,hrun⟩
 ·refine O.val rfl rfl ?_ (h0 ?_)
  ·rw [h3,Sem.run_bind,hx,hrun];rfl
  ·rw [<-he.pairs]
   refine List.Perm.map _ ((List.perm_ext_iff_of_nodup hdn hen).2 λe=>⟨λq=>hds e q,λq=>?_⟩);have h6:leftOf ens seen=#[]:=Array.eq_empty_of_size_eq_zero h5;have h7:e∉(leftOf ens seen).toList:=by rw[h6];simp
   unfold leftOf at h7;rw[Array.toList_filter,List.mem_filter] at h7;have h8:seen.contains e.born=true:=by
    cases hc:seen.contains e.born with
    |true=>rfl
    |false=>exact absurd ⟨q,by rw[hc];rfl⟩ h7
   obtain ⟨u,hu,hub⟩:=List.mem_map.1 ((hsee e).1 h8);have:u=e:=born_inj he.born (hds u hu) q hub;exact this ▸ hu
 ·unfold leftOf at hel
  rw[Array.toList_filter,List.mem_filter] at hel;obtain ⟨hem,hns⟩:=hel;have hnm:e.born∉ds.map (·.born):=λq=>by
   rw[(hsee e).2 q] at hns
   simp at hns
  have hi:=he.ints e hem;have hr1:w1.heap[r]? =some (.mapIter (some b) clock seen clock):=by rcases hw1 with rfl|rfl<;>exact hr
  have hb1:w1.heap[b]? =some (.map ens clock):=by rcases hw1 with rfl|rfl<;>exact hb
  have hz1:w1.heap=w.heap:=by rcases hw1 with rfl|rfl<;>rfl
  have hext:Ext (λi=>i=r) w (Go.ChangeMaps.setBlock w1 r (.mapIter (some b) clock (seen.push e.born) clock)):=by
   refine ⟨?_,?_,?_,?_,λi _ hi=>?_⟩
   ·rcases hw1 with rfl|rfl<;>rfl
   ·rcases hw1 with rfl|rfl<;>rfl
   ·rcases hw1 with rfl|rfl<;>rfl
   ·simp [Go.ChangeMaps.setBlock,hz1]
   ·rw [<-hz1]
    exact (MapKept.heap_set hr1).2 i hi
  have hlen:(ds.map pairOf).length<es.length:=by
   rw[<-he.pairs,List.length_map,List.length_map];have hsub:(e::ds).length<=ens.toList.length:=len_of_sub (List.nodup_cons.2 ⟨λq=>hnm (List.mem_map.2 ⟨e,q,rfl⟩),hdn⟩) (by
    intro u hu;rcases List.mem_cons.1 hu with rfl|hu
    ·exact hem
    ·exact hds u hu)
   exact hsub
  have hpe:pairOf e∈es:=by rw[<-he.pairs];exact List.mem_map.2 ⟨e,hem,rfl⟩
  have hpn:pairOf e∉ds.map pairOf:=λq=>by
   obtain ⟨u,hu,huq⟩:=List.mem_map.1 q;have hk:=he.keys;rw[<-he.pairs,List.map_map] at hk;have hue:u≠e:=λq2=>hnm (List.mem_map.2 ⟨u,hu,by rw[q2]⟩)
   have hpw:=List.pairwise_map.1 hk;obtain ⟨i,hi1,hi2⟩:=List.getElem_of_mem (hds u hu);obtain ⟨j,hj1,hj2⟩:=List.getElem_of_mem hem;have hij:i≠j:=λq3=>hue (by subst q3;exact hi2.symm.trans hj2)
   rcases Nat.lt_or_gt_of_ne hij with q4|q4
   ·have:=List.pairwise_iff_getElem.1 hpw i j hi1 hj1 q4
    rw[hi2,hj2] at this;exact this (congrArg Prod.fst huq)
   ·have:=List.pairwise_iff_getElem.1 hpw j i hj1 hi1 q4
    rw[hi2,hj2] at this;exact this (congrArg Prod.fst huq).symm
  refine O.val (v:=.tuple #[.bool true,.int .i64 (pairOf e).1,.int .i64 (pairOf e).2]) rfl rfl ?_ (h1 (pairOf e) (Go.ChangeMaps.setBlock w1 r (.mapIter (some b) clock (seen.push e.born) clock)) hpe hpn hlen ⟨hn,ens,clock,seen.push e.born,ds++[e],((MapKept.heap_set hr1).2 b (Ne.symm hn)).trans hb1,he,(MapKept.heap_set hr1).1,by simp[hs],λu hu=>?_,?_,by simp⟩ hext (by simp[Go.ChangeMaps.setBlock,hz1]))
  ·rw [h3,Sem.run_bind,hx,hrun]
   rw[hi.1,hi.2]
   rfl
  ·rcases List.mem_append.1 hu with hu|hu
   ·exact hds u hu
   ·rw [List.mem_singleton.1 hu];exact hem
  ·rw [List.map_append]
   refine List.nodup_append.2 ⟨hnd,by simp,λq hq q2 hq2 e2=>?_⟩;simp only[List.map_cons,List.map_nil,List.mem_singleton] at hq2;rw[e2,hq2] at hq;exact hnm hq
theorem O.entryM {p:Int×Int}(hx:ev n f x=.pointer (some ⟨r,0,none⟩))(ho:IterO w r b es (done++[p]))(h:O P n ops rest N Z (upd f d (.tuple #[.int .i64 p.1,.int .i64 p.2])) w):
 O P n ops (ZO d (.entry x) tr pos after::rest) N Z f w:=by
 obtain ⟨hn,ens,clock,seen,ds,hb,he,hr,hs,hds,hnd,hdn⟩:=ho;have hne:ds≠[]:=by rintro rfl;simp at hdn
 have hsplit:=List.dropLast_concat_getLast hne;have hlast:pairOf (ds.getLast hne)=p:=by
  rw[<-hsplit,List.map_append] at hdn;exact (List.append_inj' hdn rfl).2|>λq=>by simpa using q.symm
 have hseen:seen=((ds.dropLast.map (·.born)).toArray).push (ds.getLast hne).born:=by
  apply Array.ext'
  rw[hs,Array.toList_push]
  conv=>lhs;rw[<-hsplit]
  simp
 rw[hseen] at hr;have hem:=hds _ (List.getLast_mem hne);have hi:=he.ints _ hem;refine O.val rfl rfl ?_ h;have h3:execOp (ev n f) (ZO d (.entry x) tr pos after)=(do pure (.value (<-Instr.entry (ev n f x)))):=rfl;rw[h3,Sem.run_bind,hx,run_entry_at w r b clock _ ens clock (ds.getLast hne) hr hb hem he.born,hi.1,hi.2,<-hlast]
 rfl
end
section
variable
 {d:Nat}{x y:Operand}{t t' tr:TypeId}{pos:String}{after:Array Edge}
theorem O.maxI {a b:Int}(hx:ev n f x=i64 a)(hy:ev n f y=i64 b)(h:O P n ops rest N Z (upd f d (i64 (max a b))) w):
 O P n ops (ZO d (.call {callee:=.builtin .max,args:=[x,y].toArray,argTypes:=[t,t'].toArray}) tr pos after::rest) N Z f w:=by
 refine O.val rfl rfl ?_ h;have e:(if a<b then b else a)=max a b:=by rw[Int.max_def];split<;>split<;>omega
 have h3:(execOp (ev n f) (ZO d (.call {callee:=.builtin .max,args:=[x,y].toArray,argTypes:=[t,t'].toArray}) tr pos after)).run P w=((Builtin.max_ #[t,t'] tr #[ev n f x,ev n f y]).run P w).andThen (λv w=>.ok (.value v) w):=by
  simp[execOp,resolve,invoke,builtin]
 rw[h3,hx,hy];have h4:(Builtin.max_ #[t,t'] tr #[i64 a,i64 b]).run P w=.ok (i64 (max a b)) w:=by
  simp[Builtin.max_,Builtin.max2,i64,e]
 rw[h4]
 rfl
end
end Go.Pn
end
section
namespace Go.Pn.Vc
open Go Go.Pn Go.Pn.Cn
abbrev V:=List Dt.Dot
def Ok (v:V):Prop:=v.Pairwise (λa b=>a.1<b.1)∧∀d∈v,Dt.Valid d
theorem pw_adj:∀{v:V},incr v=true↔v.Pairwise (λa b=>a.1<b.1)
 |[]=>by simp[incr,adj]
 |[a]=>by simp[incr,adj]
 |a::b::l=>by
  have ih:=pw_adj (v:=b::l);unfold incr at ih ⊢;unfold adj;rw[Bool.and_eq_true,ih,decide_eq_true_iff]
  constructor
  ·rintro ⟨h1,h2⟩
   refine List.pairwise_cons.2 ⟨λc hc=>?_,h2⟩;rcases List.mem_cons.1 hc with rfl|hc
   ·exact h1
   ·exact Int.lt_trans h1 ((List.pairwise_cons.1 h2).1 c hc)
  ·intro h
   have h':=List.pairwise_cons.1 h;exact ⟨h'.1 b (.head _),h'.2⟩
theorem ok_iff {v:V}:vecValid v=true↔Ok v:=by
 unfold vecValid Ok;rw[Bool.and_eq_true,pw_adj];refine and_congr_right λ_=>?_
 constructor
 ·intro h d hd
  apply okD_of
  cases hb:badD d with
  |false=>rfl
  |true=>
   have:v.any badD=true:=List.any_eq_true.2 ⟨d,hd,hb⟩;rw[this] at h;cases h
 ·intro h
  cases ha:v.any badD with
  |false=>rfl
  |true=>
   obtain ⟨d,hd,hb⟩:=List.any_eq_true.1 ha;unfold badD okD at hb;rw[dT (h d hd)] at hb;cases hb
theorem Ok.nil:Ok []:=⟨List.Pairwise.nil,by simp⟩
theorem Ok.tail {a:Dt.Dot}{v:V}(h:Ok (a::v)):Ok v:=⟨(List.pairwise_cons.1 h.1).2,λd hd=>h.2 d (.tail _ hd)⟩
theorem Ok.head {a:Dt.Dot}{v:V}(h:Ok (a::v)):∀d∈v,a.1<d.1:=(List.pairwise_cons.1 h.1).1
theorem get_nil (r:Int):get [] r=0:=rfl
theorem get_cons (a:Dt.Dot)(v:V)(r:Int):get (a::v) r=if a.1=r then a.2 else get v r:=by
 unfold Cn.get
 by_cases h:a.1=r
 ·rw [if_pos h,List.find?_cons_of_pos (by simpa using h)]
 ·rw [if_neg h,List.find?_cons_of_neg (by simpa using h)]
theorem get_zero {v:V}{r:Int}(h:∀d∈v,d.1≠r):get v r=0:=by
 induction v with
 |nil=>rfl
 |cons a v ih=>rw[get_cons,if_neg (h a (.head _)),ih λd hd=>h d (.tail _ hd)]
theorem get_mem {v:V}(h:Ok v){d:Dt.Dot}(hd:d∈v):get v d.1=d.2:=by
 induction v with
 |nil=>cases hd
 |cons a v ih=>
  rw[get_cons];rcases List.mem_cons.1 hd with rfl|hd
  ·rw [if_pos rfl]
  ·rw [if_neg (by have:=h.head d hd;omega),ih h.tail hd]
theorem get_some {v:V}{r:Int}(h:get v r≠0):∃d∈v,d.1=r:=by
 induction v with
 |nil=>exact absurd rfl h
 |cons a v ih=>
  rw[get_cons] at h
  by_cases ha:a.1=r
  ·exact ⟨a,.head _,ha⟩
  ·rw [if_neg ha] at h
   obtain ⟨d,hd,e⟩:=ih h;exact ⟨d,.tail _ hd,e⟩
theorem get_ge {v:V}(h:Ok v)(r:Int):0<=get v r:=by
 by_cases hz:get v r=0
 ·omega
 ·obtain ⟨d,hd,rfl⟩:=get_some hz
  rw[get_mem h hd];have:=h.2 d hd;unfold Dt.Valid at this
  omega
theorem ext:∀{a b:V},Ok a->Ok b->(∀r,get a r=get b r)->a=b
 |[],[],_,_,_=>rfl
 |[],y::b,_,hb,h=>by
  have:=h y.1;rw[get_cons,if_pos rfl] at this;have h2:=hb.2 y (.head _);unfold Dt.Valid at h2;rw[get_nil] at this
  omega
 |x::a,[],ha,_,h=>by
  have:=h x.1;rw[get_cons,if_pos rfl] at this;have h2:=ha.2 x (.head _);unfold Dt.Valid at h2;rw[get_nil] at this
  omega
 |x::a,y::b,ha,hb,h=>by
  have vx:=ha.2 x (.head _);have vy:=hb.2 y (.head _);unfold Dt.Valid at vx vy;have h1:x.1=y.1:=by
   rcases Int.lt_trichotomy x.1 y.1 with q|q|q
   ·have:=h x.1
    rw[get_cons,if_pos rfl,get_cons,if_neg (by omega),get_zero λd hd=>by have:=hb.head d hd;omega] at this
    omega
   ·exact q
   ·have:=h y.1
    rw[get_cons,get_cons,if_pos rfl,if_neg (by omega),get_zero λd hd=>by have:=ha.head d hd;omega] at this
    omega
  have h2:x.2=y.2:=by
   have:=h x.1;rwa [get_cons,if_pos rfl,get_cons,if_pos h1.symm] at this
  have hxy:x=y:=Prod.ext h1 h2;rw[hxy,ext ha.tail hb.tail λr=>?_]
  by_cases hr:x.1=r
  ·rw [get_zero λd hd=>by have:=ha.head d hd;omega,get_zero λd hd=>by have:=hb.head d hd;omega]
  ·have:=h r
   rwa [get_cons,if_neg hr,get_cons,if_neg (by rw[<-h1];exact hr)] at this
def rgo (d:Dt.Dot):Bool->V->V->V
 |done,out,[]=>if done then out else out++[d]
 |done,out,x::r=>
  let hit:= !done&&decide (x.1≥d.1)
  let out1:=if hit then out++[d] else out
  rgo d (done||hit) (if x.1=d.1 then out1 else out1++[x]) r
def raise (v:V)(d:Dt.Dot):V:=if vecHas v d then v else rgo d false [] v
def ins (d:Dt.Dot):V->V
 |[]=>[d]
 |x::r=>if x.1≥d.1 then d::(x::r).filter (λy=>decide (y.1≠d.1)) else x::ins d r
theorem rgo_true (d:Dt.Dot):∀(out v:V),rgo d true out v=out++v.filter (λy=>decide (y.1≠d.1))
 |out,[]=>by simp[rgo]
 |out,x::r=>by
  unfold rgo;simp only[Bool.not_true,Bool.false_and,Bool.false_eq_true,if_false,Bool.true_or];rw[rgo_true]
  by_cases h:x.1=d.1
  ·rw [if_pos h,List.filter_cons_of_neg (by simpa using h)]
  ·rw [if_neg h,List.filter_cons_of_pos (by simpa using h),List.append_assoc]
   rfl
theorem rgo_false (d:Dt.Dot):∀(out v:V),rgo d false out v=out++ins d v
 |out,[]=>rfl
 |out,x::r=>by
  unfold rgo ins
  by_cases h:x.1≥d.1
  ·simp only[Bool.not_false,Bool.true_and,decide_eq_true h,if_true,Bool.false_or,if_pos h]
   rw[rgo_true]
   by_cases h2:x.1=d.1
   ·rw [if_pos h2,List.filter_cons_of_neg (by simpa using h2),List.append_assoc]
    rfl
   ·rw [if_neg h2,List.filter_cons_of_pos (by simpa using h2)]
    simp
  ·simp only[Bool.not_false,Bool.true_and,decide_eq_false h,Bool.false_eq_true,if_false,Bool.false_or,if_neg h]
   rw[if_neg (by omega),rgo_false,List.append_assoc]
   rfl
theorem raise_ins (v:V)(d:Dt.Dot):raise v d=if vecHas v d then v else ins d v:=by
 unfold raise;rw[rgo_false]
 rfl
theorem get_filter {v:V}{k r:Int}(h:r≠k):get (v.filter (λy=>decide (y.1≠k))) r=get v r:=by
 induction v with
 |nil=>rfl
 |cons a v ih=>
  by_cases ha:a.1=k
  ·rw [List.filter_cons_of_neg (by simpa using ha),ih,get_cons,if_neg (by omega)]
  ·rw [List.filter_cons_of_pos (by simpa using ha),get_cons,get_cons,ih]
theorem get_ins (d:Dt.Dot)(r:Int):∀v:V,get (ins d v) r=if r=d.1 then d.2 else get v r
 |[]=>by
  show get [d] r=_;rw[get_cons]
  by_cases h:r=d.1
  ·rw [if_pos h,if_pos h.symm]
  ·rw [if_neg h,if_neg (λq=>h q.symm)]
 |x::v=>by
  unfold ins
  by_cases hx:x.1≥d.1
  ·rw [if_pos hx,get_cons]
   by_cases h:r=d.1
   ·rw [if_pos h,if_pos h.symm]
   ·rw [if_neg h,if_neg (λq=>h q.symm),get_filter h]
  ·rw [if_neg hx,get_cons,get_ins d r v,get_cons]
   by_cases h:r=d.1
   ·rw [if_neg (by omega),if_pos h,if_pos h]
   ·rw [if_neg h,if_neg h]
theorem mem_ins {d x:Dt.Dot}:∀{v:V},x∈ins d v->x=d∨x∈v
 |[],h=>by
  rcases List.mem_cons.1 h with h|h
  ·exact .inl h
  ·cases h
 |y::v,h=>by
  unfold ins at h
  split at h
  ·rcases List.mem_cons.1 h with h|h
   ·exact .inl h
   ·exact .inr (List.mem_filter.1 h).1
  ·rcases List.mem_cons.1 h with h|h
   ·exact .inr (h ▸ .head _)
   ·rcases mem_ins h with h|h
    ·exact .inl h
    ·exact .inr (.tail _ h)
theorem ok_ins {d:Dt.Dot}(hd:Dt.Valid d):∀{v:V},Ok v->Ok (ins d v)
 |[],_=>⟨List.pairwise_singleton _ _,λx hx=>by rcases mem_ins hx with h|h;exact h ▸ hd;cases h⟩
 |y::v,h=>by
  refine ⟨?_,λx hx=>by rcases mem_ins hx with q|q;exact q ▸ hd;exact h.2 x q⟩;unfold ins
  split
  ·rename_i hy
   refine List.pairwise_cons.2 ⟨λx hx=>?_,h.1.sublist List.filter_sublist⟩;obtain ⟨h1,h2⟩:=List.mem_filter.1 hx;have h3:x.1≠d.1:=by simpa using h2
   rcases List.mem_cons.1 h1 with rfl|h1
   ·omega
   ·have:=h.head x h1
    omega
  ·refine List.pairwise_cons.2 ⟨λx hx=>?_,(ok_ins hd h.tail).1⟩
   rcases mem_ins hx with q|q
   ·subst q;omega
   ·exact h.head x q
theorem ins_len (d:Dt.Dot):∀v:V,(ins d v).length<=v.length+1
 |[]=>Nat.le_refl _
 |x::v=>by
  unfold ins
  split
  ·have:=List.length_filter_le (λy:Dt.Dot=>decide (y.1≠d.1)) (x::v)
   show (List.filter _ _).length+1<=_
   omega
  ·have:=ins_len d v
   show (ins d v).length+1<=v.length+1+1
   omega
theorem raise_len (v:V)(d:Dt.Dot):(raise v d).length<=v.length+1:=by
 rw[raise_ins]
 split
 ·omega
 ·exact ins_len d v
theorem ok_raise {v:V}{d:Dt.Dot}(hv:Ok v)(hd:Dt.Valid d):Ok (raise v d):=by
 rw[raise_ins]
 split
 ·exact hv
 ·exact ok_ins hd hv
theorem vecHas_iff {v:V}{d:Dt.Dot}(hd:Dt.Valid d):vecHas v d=true↔d.2<=get v d.1:=by
 unfold vecHas okD;rw[decide_eq_true hd]
 simp
theorem get_raise {v:V}{d:Dt.Dot}(hd:Dt.Valid d)(r:Int):get (raise v d) r=if r=d.1 then max (get v r) d.2 else get v r:=by
 rw[raise_ins]
 by_cases h:vecHas v d=true
 ·rw [if_pos h]
  have:=(vecHas_iff hd).1 h
  by_cases hr:r=d.1
  ·rw [if_pos hr,hr];omega
  ·rw [if_neg hr]
 ·rw [if_neg h,get_ins]
  have:=mt (vecHas_iff hd).2 h
  by_cases hr:r=d.1
  ·rw [if_pos hr,if_pos hr,hr];omega
  ·rw [if_neg hr,if_neg hr]
def of (l:V):V:=l.foldl raise []
def mrg (a b:V):V:=of (a++b)
def tops (x:Int)(l:V)(r:Int):Int:=l.foldl (λm d=>if r=d.1 then max m d.2 else m) x
theorem ok_fold {l:V}(hl:∀d∈l,Dt.Valid d):∀{v:V},Ok v->Ok (l.foldl raise v):=by
 induction l with
 |nil=>intro v hv;exact hv
 |cons a l ih=>intro v hv;exact ih (λd hd=>hl d (.tail _ hd)) (ok_raise hv (hl a (.head _)))
theorem get_fold {l:V}(hl:∀d∈l,Dt.Valid d)(r:Int):∀v:V,get (l.foldl raise v) r=tops (get v r) l r:=by
 induction l with
 |nil=>intro v;rfl
 |cons a l ih=>
  intro v;show get (l.foldl raise (raise v a)) r=tops (get v r) (a::l) r;rw[ih (λd hd=>hl d (.tail _ hd)),get_raise (hl a (.head _))]
  rfl
theorem tops_max (r:Int):∀(l:V) (x y:Int),tops (max x y) l r=max x (tops y l r)
 |[],x,y=>rfl
 |a::l,x,y=>by
  show tops (if r=a.1 then max (max x y) a.2 else max x y) l r=max x (tops (if r=a.1 then max y a.2 else y) l r)
  by_cases h:r=a.1
  ·rw [if_pos h,if_pos h,<-tops_max r l]
   congr 1
   omega
  ·rw [if_neg h,if_neg h,tops_max r l]
theorem tops_from {l:V}{x r:Int}(hx:0<=x):tops x l r=max x (tops 0 l r):=by
 have:=tops_max r l x 0;rw[show max x 0=x by omega] at this;exact this
theorem tops_ok {v:V}(h:Ok v)(r:Int):tops 0 v r=get v r:=by
 induction v with
 |nil=>rfl
 |cons a v ih=>
  have ha:=h.2 a (.head _);unfold Dt.Valid at ha;show tops (if r=a.1 then max 0 a.2 else 0) v r=_;rw[get_cons]
  by_cases hr:r=a.1
  ·rw [if_pos hr,if_pos hr.symm,tops_from (by omega),ih h.tail,get_zero λd hd=>by have:=h.head d hd;omega]
   omega
  ·rw [if_neg hr,if_neg (λq=>hr q.symm),ih h.tail]
theorem tops_app (a b:V)(x r:Int):tops x (a++b) r=tops (tops x a r) b r:=by
 unfold tops;rw[List.foldl_append]
theorem ok_of {l:V}(hl:∀d∈l,Dt.Valid d):Ok (of l):=ok_fold hl Ok.nil
theorem get_of {l:V}(hl:∀d∈l,Dt.Valid d)(r:Int):get (of l) r=tops 0 l r:=get_fold hl r []
theorem both_valid {a b:V}(ha:∀d∈a,Dt.Valid d)(hb:∀d∈b,Dt.Valid d):∀d∈a++b,Dt.Valid d:=λd hd=>by
 rcases List.mem_append.1 hd with h|h
 ·exact ha d h
 ·exact hb d h
theorem ok_mrg {a b:V}(ha:Ok a)(hb:Ok b):Ok (mrg a b):=ok_of (both_valid ha.2 hb.2)
theorem get_mrg {a b:V}(ha:Ok a)(hb:Ok b)(r:Int):get (mrg a b) r=max (get a r) (get b r):=by
 unfold mrg;rw[get_of (both_valid ha.2 hb.2),tops_app,tops_ok ha,tops_from (get_ge ha r),tops_ok hb]
def mfold (l:V):List (Int×Int):=l.foldl (λes d=>mput es d.1 (max (mget es d.1) d.2)) []
theorem mget_get (es:List (Int×Int))(k:Int):mget es k=get es k:=rfl
theorem mget_put {k v:Int}(r:Int):∀es:List (Int×Int),mget (mput es k v) r=if r=k then v else mget es r
 |[]=>by
  show get [(k,v)] r=if r=k then v else 0;rw[get_cons]
  by_cases h:r=k
  ·rw [if_pos h,if_pos h.symm]
  ·rw [if_neg h,if_neg λq=>h q.symm,get_nil]
 |p::es=>by
  have ih:=mget_put r es (k:=k) (v:=v);rw[mget_get] at ih ⊢;unfold mput
  by_cases hp:p.1=k
  ·rw [if_pos hp,get_cons,mget_get,get_cons]
   by_cases h:r=k
   ·rw [if_pos h,if_pos h.symm]
   ·rw [if_neg h,if_neg λq=>h q.symm,if_neg (by omega)]
  ·rw [if_neg hp,get_cons,ih,mget_get,mget_get,get_cons]
   by_cases h:r=k
   ·rw [if_pos h,if_neg (by omega),if_pos h]
   ·rw [if_neg h,if_neg h]
theorem mfold_snoc (l:V)(d:Dt.Dot):mfold (l++[d])=mput (mfold l) d.1 (max (mget (mfold l) d.1) d.2):=by
 unfold mfold;rw[List.foldl_append]
 rfl
theorem mfold_get (l:V)(r:Int):mget (mfold l) r=tops 0 l r:=by
 have key:∀(l:V) (es:List (Int×Int)),mget (l.foldl (λes d=>mput es d.1 (max (mget es d.1) d.2)) es) r=tops (mget es r) l r:=by
  intro l
  induction l with
  |nil=>intro es;rfl
  |cons a l ih=>
   intro es;show mget (l.foldl _ (mput es a.1 (max (mget es a.1) a.2))) r=tops (if r=a.1 then max (mget es r) a.2 else mget es r) l r;rw[ih,mget_put]
   by_cases h:r=a.1
   ·rw [if_pos h,if_pos h,h]
   ·rw [if_neg h,if_neg h]
 exact key l []
theorem mput_mem {k v:Int}{p:Int×Int}:∀{es:List (Int×Int)},p∈mput es k v->p=(k,v)∨p∈es
 |[],h=>.inl (List.mem_singleton.1 h)
 |q::es,h=>by
  unfold mput at h
  split at h
  ·rcases List.mem_cons.1 h with h|h
   ·exact .inl h
   ·exact .inr (.tail _ h)
  ·rcases List.mem_cons.1 h with h|h
   ·exact .inr (h ▸ .head _)
   ·rcases mput_mem h with h|h
    ·exact .inl h
    ·exact .inr (.tail _ h)
theorem mfold_pos {l:V}(hl:∀d∈l,Dt.Valid d):∀p∈mfold l,0<p.2:=by
 have key:∀(l:V),(∀d∈l,Dt.Valid d)->∀(es:List (Int×Int)),(∀p∈es,0<p.2)->∀p∈l.foldl (λes d=>mput es d.1 (max (mget es d.1) d.2)) es,0<p.2:=by
  intro l
  induction l with
  |nil=>intro _ es h;exact h
  |cons a l ih=>
   intro hl es h;refine ih (λd hd=>hl d (.tail _ hd)) _ λp hp=>?_
   rcases mput_mem hp with rfl|hp
   ·have:=hl a (.head _)
    unfold Dt.Valid at this;show 0<max _ a.2
    omega
   ·exact h p hp
 exact key l hl [] (by simp)
theorem mput_len {k v:Int}:∀es:List (Int×Int),(mput es k v).length<=es.length+1
 |[]=>Nat.le_refl _
 |p::es=>by
  unfold mput
  split
  ·simp
  ·have:=mput_len es (k:=k) (v:=v)
   simp only[List.length_cons]
   omega
theorem mfold_len (l:V):(mfold l).length<=l.length:=by
 have key:∀(l:V) (es:List (Int×Int)),(l.foldl (λes d=>mput es d.1 (max (mget es d.1) d.2)) es).length<=es.length+l.length:=by
  intro l
  induction l with
  |nil=>intro es;simp
  |cons a l ih=>
   intro es;have h1:=ih (mput es a.1 (max (mget es a.1) a.2));have h2:=mput_len es (k:=a.1) (v:=max (mget es a.1) a.2);simp only[List.foldl_cons,List.length_cons]
   omega
 have:=key l [];simp only[List.length_nil,Nat.zero_add] at this;exact this
theorem sorted_of {l:V}(hl:∀d∈l,Dt.Valid d){es done out:List (Int×Int)}(he:es=mfold l)(hk:(es.map (·.1)).Nodup)(hp:done.Perm es)(hq:out.Perm done)(hs:out.Pairwise (λa b=>a.1<=b.1)):out=of l:=by
 subst he;have hpe:out.Perm (mfold l):=hq.trans hp;have hkeys:(out.map (·.1)).Nodup:=(hpe.map _).nodup_iff.2 hk;have hlt:out.Pairwise (λa b=>a.1<b.1):=by
  have h1:=List.pairwise_map.1 hkeys;exact (List.pairwise_and_iff.2 ⟨hs,h1⟩).imp λ{a b} h=>by
   have h1:=h.1;have h2:=h.2
   omega
 have hget:∀p∈out,get (of l) p.1=p.2:=λp hp2=>by
  have hm:=hpe.mem_iff.1 hp2;obtain ⟨j,hj,hj2⟩:=List.getElem_of_mem hm;have:=mget_at hk (j:=j) (p:=p) (by rw[List.getElem?_eq_getElem hj,hj2]);rw[get_of hl,<-mfold_get,this]
 have hov:∀p∈out,Dt.Valid p:=λp hp2=>by
  have h1:=hget p hp2;have h2:=mfold_pos hl p (hpe.mem_iff.1 hp2);obtain ⟨d,hd,hd2⟩:=get_some (v:=of l) (r:=p.1) (by omega);have h3:=get_mem (ok_of hl) hd;have h4:d=p:=Prod.ext hd2 (by rw[<-h3,<-h1,hd2]);exact h4 ▸ (ok_of hl).2 d hd
 have hok:Ok out:=⟨hlt,hov⟩
 refine ext hok (ok_of hl) λr=>?_
 by_cases hz:get out r=0
 ·rw [hz]
  by_cases h2:get (of l) r=0
  ·exact h2.symm
  ·rw [get_of hl,<-mfold_get] at h2
   obtain ⟨p,hp2,rfl⟩:=get_some (v:=mfold l) (r:=r) h2;have hm:=hpe.mem_iff.2 hp2;have:=get_mem hok hm;have:=mfold_pos hl p hp2
   omega
 ·obtain ⟨d,hd,rfl⟩:=get_some hz
  rw[get_mem hok hd,hget d hd]
theorem of_len (l:V):(of l).length<=l.length:=by
 have key:∀(l:V) (v:V),(l.foldl raise v).length<=v.length+l.length:=by
  intro l
  induction l with
  |nil=>intro v;simp
  |cons a l ih=>
   intro v;have h1:=ih (raise v a);have h2:=raise_len v a;simp only[List.foldl_cons,List.length_cons]
   omega
 have:=key l [];simp only[List.length_nil,Nat.zero_add] at this;exact this
theorem get_none {v:V}{r:Int}(hn:∀j,∀q:j<v.length,v[j].1≠r):get v r=0:=get_zero λd hd=>by
 obtain ⟨i,hi,rfl⟩:=List.getElem_of_mem hd;exact hn i hi
theorem flatten_take {α:Type}{ps:List (List α)}{k:Nat}(h:k<ps.length):(ps.take (k+1)).flatten=(ps.take k).flatten++ps[k]:=by
 rw[List.take_succ_eq_append_getElem h,List.flatten_append]
 simp
theorem flatten_take_le {α:Type}(ps:List (List α))(k:Nat):(ps.take k).flatten.length<=ps.flatten.length:=by
 have:=congrArg (λl:List (List α)=>l.flatten.length) (List.take_append_drop k ps);simp only[List.flatten_append,List.length_append] at this
 omega
end Go.Pn.Vc
end
section
namespace Go.Pn.Jn
open Go Go.Pn Go.Pn.Cn
abbrev Name:=List UInt8
abbrev Mark:=MarkT
abbrev Item:=ItemT
abbrev Dot:=Dt.Dot
abbrev Ctx:=List Dt.Dot×List Dt.Dot
abbrev Cart:=Cn.Cart
def BL (a b:Name):Prop:=Op.bytesLess a b=true
instance (a b:Name):Decidable (BL a b):=inferInstanceAs (Decidable (_=true))
theorem bl_nil (a:Name):¬BL a []:=by cases a<;>simp[BL,Op.bytesLess]
theorem bl_cons {a b:UInt8}{x y:Name}:BL (a::x) (b::y)↔a.toNat<b.toNat∨(a.toNat=b.toNat∧BL x y):=by
 unfold BL;rw[Op.bytesLess,Bool.or_eq_true,Bool.and_eq_true,decide_eq_true_iff,beq_iff_eq,UInt8.lt_iff_toNat_lt,u8_eq]
theorem bl_irrefl:∀a:Name,¬BL a a
 |[]=>bl_nil []
 |a::x=>λh=>by
  rcases bl_cons.1 h with q|⟨_,q⟩
  ·omega
  ·exact bl_irrefl x q
theorem bl_trans:∀{a b c:Name},BL a b->BL b c->BL a c
 |_,[],_,h,_=>absurd h (bl_nil _)
 |_,_::_,[],_,h=>absurd h (bl_nil _)
 |[],_::_,_::_,_,_=>rfl
 |a::x,b::y,c::z,h,k=>by
  rw[bl_cons] at h k ⊢;rcases h with h|⟨h,h2⟩<;>rcases k with k|⟨k,k2⟩
  ·exact .inl (by omega)
  ·exact .inl (by omega)
  ·exact .inl (by omega)
  ·exact .inr ⟨by omega,bl_trans h2 k2⟩
theorem bl_total:∀a b:Name,BL a b∨a=b∨BL b a
 |[],[]=>.inr (.inl rfl)
 |[],_::_=>.inl rfl
 |_::_,[]=>.inr (.inr rfl)
 |a::x,b::y=>by
  rw[bl_cons,bl_cons];rcases Nat.lt_trichotomy a.toNat b.toNat with h|h|h
  ·exact .inl (.inl h)
  ·rcases bl_total x y with q|q|q
   ·exact .inl (.inr ⟨h,q⟩)
   ·exact .inr (.inl (by rw[u8_eq.2 h,q]))
   ·exact .inr (.inr (.inr ⟨h.symm,q⟩))
  ·exact .inr (.inr (.inl h))
def ML (a b:Mark):Prop:=a.2.2.toNat<b.2.2.toNat∨(a.2.2.toNat=b.2.2.toNat∧(a.1.1<b.1.1∨(a.1.1=b.1.1∧(a.1.2<b.1.2∨(a.1.2=b.1.2∧a.2.1<b.2.1)))))
instance (a b:Mark):Decidable (ML a b):=by unfold ML;infer_instance
theorem ml_irrefl (a:Mark):¬ML a a:=by unfold ML;omega
theorem ml_total (a b:Mark):ML a b∨a=b∨ML b a:=by
 by_cases h:ML a b
 ·exact .inl h
 by_cases k:ML b a
 ·exact .inr (.inr k)
 refine .inr (.inl ?_);obtain ⟨⟨a1,a2⟩,a3,a4⟩:=a;obtain ⟨⟨b1,b2⟩,b3,b4⟩:=b;unfold ML at h k;dsimp only at h k;have e1:a1=b1:=by omega
 have e2:a2=b2:=by omega
 have e3:a3=b3:=by omega
 have e4:a4=b4:=BitVec.eq_of_toNat_eq (by omega);rw[e1,e2,e3,e4]
def mcmp (a b:Mark):Int:=if ML a b then-1 else if ML b a then 1 else 0
theorem mcmp_ge (a b:Mark):mcmp a b≥0↔¬ML a b:=by
 unfold mcmp
 split
 ·rename_i h
  exact ⟨λq=>absurd q (by decide),λq=>absurd h q⟩
 ·rename_i h
  refine ⟨λ_=>h,λ_=>?_⟩
  split<;>decide
theorem pw_ext {α:Type}{R:α->α->Prop}(irr:∀a,¬R a a)(tr:∀{a b c},R a b->R b c->R a c):∀{l l':List α},l.Pairwise R->l'.Pairwise R->(∀x,x∈l↔x∈l')->l=l':=by
 intro l
 induction l with
 |nil=>
  intro l' _ _ h;cases l' with
  |nil=>rfl
  |cons b l'=>exact absurd ((h b).2 (by simp)) (by simp)
 |cons a l ih=>
  intro l' h1 h2 h;cases l' with
  |nil=>exact absurd ((h a).1 (by simp)) (by simp)
  |cons b l'=>
   have p1:=List.pairwise_cons.1 h1;have p2:=List.pairwise_cons.1 h2;have hab:a=b:=by
    rcases List.mem_cons.1 ((h a).1 (by simp)) with e|ha
    ·exact e
    ·rcases List.mem_cons.1 ((h b).2 (by simp)) with e|hb
     ·exact e.symm
     ·exact absurd (tr (p2.1 a ha) (p1.1 b hb)) (irr b)
   subst hab;rw[ih p1.2 p2.2];intro x
   constructor
   ·intro hx
    rcases List.mem_cons.1 ((h x).1 (List.mem_cons_of_mem _ hx)) with e|hx2
    ·subst e;exact absurd (p1.1 x hx) (irr x)
    ·exact hx2
   ·intro hx
    rcases List.mem_cons.1 ((h x).2 (List.mem_cons_of_mem _ hx)) with e|hx2
    ·subst e;exact absurd (p2.1 x hx) (irr x)
    ·exact hx2
theorem pw_two {α:Type}{R:α->α->Prop}{l:List α}(h:l.Pairwise R){x y:α}(hx:x∈l)(hy:y∈l):x=y∨R x y∨R y x:=by
 induction l with
 |nil=>cases hx
 |cons a l ih=>
  have p:=List.pairwise_cons.1 h;rcases List.mem_cons.1 hx with e|hx<;>rcases List.mem_cons.1 hy with e'|hy
  ·exact .inl (e.trans e'.symm)
  ·exact .inr (.inl (e ▸ p.1 y hy))
  ·exact .inr (.inr (e' ▸ p.1 x hx))
  ·exact ih p.2 hx hy
def cpt {α:Type}[DecidableEq α]:List α->List α
 |[]=>[]
 |[a]=>[a]
 |a::b::l=>if a=b then cpt (b::l) else a::cpt (b::l)
section
variable {α:Type}[DecidableEq α]
theorem cpt_mem:∀(l:List α) (x:α),x∈cpt l↔x∈l
 |[],x=>by simp[cpt]
 |[a],x=>by simp[cpt]
 |a::b::l,x=>by
  unfold cpt;have ih:=cpt_mem (b::l) x
  split
  ·rename_i h
   subst h;rw[ih]
   simp
  ·simp only[List.mem_cons,ih]
theorem cpt_head:∀(a:α) (l:List α),∃r,cpt (a::l)=a::r
 |a,[]=>⟨[],rfl⟩
 |a,b::l=>by
  unfold cpt
  split
  ·rename_i h
   subst h;exact cpt_head a l
  ·exact ⟨_,rfl⟩
theorem cpt_pw {R:α->α->Prop}(tr:∀{a b c},R a b->R b c->R a c):∀{l:List α},l.Pairwise (λa b=>¬R b a)->(∀a∈l,∀b∈l,R a b∨a=b∨R b a)->(cpt l).Pairwise R
 |[],_,_=>by simp[cpt]
 |[a],_,_=>by simp[cpt]
 |a::b::l,h,tot=>by
  have p:=List.pairwise_cons.1 h;have ih:=cpt_pw (R:=R) tr p.2 (λx hx y hy=>tot x (List.mem_cons_of_mem _ hx) y (List.mem_cons_of_mem _ hy));unfold cpt
  split
  ·exact ih
  ·rename_i hab
   refine List.pairwise_cons.2 ⟨?_,ih⟩;intro z hz;have hb:R a b:=by
    rcases tot a (by simp) b (by simp) with k|k|k
    ·exact k
    ·exact absurd k hab
    ·exact absurd k (p.1 b (by simp))
   obtain ⟨r,hr⟩:=cpt_head b l;rw[hr] at hz ih;rcases List.mem_cons.1 hz with rfl|hz
   ·exact hb
   ·exact tr hb ((List.pairwise_cons.1 ih).1 z hz)
theorem cpt_snoc:∀(xs:List α) (a b:α),cpt (xs++[a,b])=cpt (xs++[a])++(if a=b then [] else [b])
 |[],a,b=>by
  simp only[List.nil_append,cpt]
  split
  ·rename_i h;subst h;rfl
  ·rfl
 |[c],a,b=>by
  have ih:=cpt_snoc [] a b;simp only[List.nil_append] at ih;show cpt (c::a::[b])=cpt (c::a::[])++_;unfold cpt
  split
  ·exact ih
  ·rw [ih];rfl
 |c::e::xs,a,b=>by
  have ih:=cpt_snoc (e::xs) a b;show cpt (c::e::(xs++[a,b]))=cpt (c::e::(xs++[a]))++_;rw[cpt,cpt]
  split
  ·exact ih
  ·rw [List.cons_append]
   exact congrArg (c:: ·) ih
theorem cpt_take {l:List α}{n:Nat}(h1:1<=n)(h:n<l.length):cpt (l.take (n+1))=cpt (l.take n)++(if l[n-1]=l[n] then [] else [l[n]]):=by
 obtain ⟨m,rfl⟩:∃m,n=m+1:=⟨n-1,by omega⟩
 have e1:l.take (m+1)=l.take m++[l[m]]:=List.take_succ_eq_append_getElem (by omega);have e2:l.take (m+1+1)=l.take m++[l[m],l[m+1]]:=by
  rw[List.take_succ_eq_append_getElem h,e1,List.append_assoc]
  rfl
 rw[e2,e1,cpt_snoc]
 rfl
theorem cpt_distinct:∀{l:List α},(∀i,∀h:i+1<l.length,l[i]≠l[i+1])->cpt l=l
 |[],_=>rfl
 |[a],_=>rfl
 |a::b::l,h=>by
  have h0:a≠b:=h 0 (by simp);rw[cpt,if_neg h0,cpt_distinct (l:=b::l) (λi hi=>h (i+1) (by simpa using hi))]
theorem cpt_length:∀(l:List α),(cpt l).length<=l.length
 |[]=>by simp[cpt]
 |[a]=>by simp[cpt]
 |a::b::l=>by
  have ih:=cpt_length (b::l);rw[cpt]
  split
  ·simp at ih ⊢;omega
  ·simp at ih ⊢;omega
end
def nins (s:Name):List Name->List Name
 |[]=>[s]
 |a::l=>if a=s then a::l else if BL s a then s::a::l else a::nins s l
def nset (l:List Name):List Name:=l.foldr nins []
theorem nins_mem (s x:Name):∀l:List Name,x∈nins s l↔x=s∨x∈l
 |[]=>by simp[nins]
 |a::l=>by
  unfold nins
  split
  ·rename_i h
   subst h
   simp
  ·split
   ·simp
   ·rw [List.mem_cons,nins_mem s x l,List.mem_cons]
    constructor
    ·rintro (h|h|h)
     ·exact .inr (.inl h)
     ·exact .inl h
     ·exact .inr (.inr h)
    ·rintro (h|h|h)
     ·exact .inr (.inl h)
     ·exact .inl h
     ·exact .inr (.inr h)
theorem nins_pw (s:Name):∀{l:List Name},l.Pairwise BL->(nins s l).Pairwise BL
 |[],_=>by simp[nins]
 |a::l,h=>by
  have p:=List.pairwise_cons.1 h;unfold nins
  split
  ·exact h
  ·rename_i hn
   split
   ·rename_i hs
    refine List.pairwise_cons.2 ⟨?_,h⟩;intro z hz;rcases List.mem_cons.1 hz with e|hz
    ·rw [e];exact hs
    ·exact bl_trans hs (p.1 z hz)
   ·rename_i hs
    refine List.pairwise_cons.2 ⟨?_,nins_pw s p.2⟩;intro z hz;rcases (nins_mem s z l).1 hz with e|hz
    ·rw [e]
     rcases bl_total s a with q|q|q
     ·exact absurd q hs
     ·exact absurd q.symm hn
     ·exact q
    ·exact p.1 z hz
theorem nset_mem (x:Name):∀l:List Name,x∈nset l↔x∈l
 |[]=>by simp[nset]
 |a::l=>by
  show x∈nins a (nset l)↔_;rw[nins_mem,nset_mem x l,List.mem_cons]
theorem nset_pw:∀l:List Name,(nset l).Pairwise BL
 |[]=>List.Pairwise.nil
 |a::l=>nins_pw a (nset_pw l)
theorem nset_of {l l':List Name}(hp:l'.Perm l)(hs:l'.Pairwise (λa b=>¬BL b a)):cpt l'=nset l:=by
 refine pw_ext bl_irrefl bl_trans (cpt_pw (R:=BL) bl_trans hs λa _ b _=>bl_total a b) (nset_pw l) λx=>?_
 rw[cpt_mem,nset_mem];exact hp.mem_iff
theorem nset_len:∀l:List Name,(nset l).length<=l.length
 |[]=>by simp[nset]
 |a::l=>by
  have ih:=nset_len l;have key:∀k:List Name,(nins a k).length<=k.length+1:=by
   intro k
   induction k with
   |nil=>simp[nins]
   |cons b k ik=>
    unfold nins
    split
    ·simp
    ·split
     ·simp
     ·simp;omega
  show (nins a (nset l)).length<=_;have:=key (nset l)
  simp;omega
def DL (a b:Mark):Prop:=Dt.Less a.1 b.1
def Fn (l:List Mark):Prop:=∀m∈l,∀m'∈l,m.1=m'.1->m=m'
def mset (l:List Mark):List Mark:=(Dt.set (mdots l)).filterMap λd=>l.find? λm=>decide (m.1=d)
theorem mset_mem {l:List Mark}(h:Fn l)(m:Mark):m∈mset l↔m∈l:=by
 unfold mset;rw[List.mem_filterMap]
 constructor
 ·rintro ⟨d,_,hf⟩
  exact List.mem_of_find?_eq_some hf
 ·intro hm
  refine ⟨m.1,(Dt.set_mem _ _).2 (List.mem_map.2 ⟨m,hm,rfl⟩),?_⟩;cases hf:l.find? (λm'=>decide (m'.1=m.1)) with
  |none=>
   have:=List.find?_eq_none.1 hf m hm
   simp at this
  |some m'=>
   have h1:=List.mem_of_find?_eq_some hf;have h2:=List.find?_some hf;simp only[decide_eq_true_eq] at h2;rw[h m' h1 m hm h2]
theorem mset_pw (l:List Mark):(mset l).Pairwise DL:=by
 unfold mset;have hs:(Dt.set (mdots l)).Pairwise Dt.Less:=Dt.set_sset _;rw[List.pairwise_filterMap];refine hs.imp ?_;intro d e hde m hm m' hm';have h1:=List.find?_some hm;have h2:=List.find?_some hm';simp only[decide_eq_true_eq] at h1 h2;unfold DL;rw[h1,h2];exact hde
theorem mset_len (l:List Mark):(mset l).length<=l.length:=by
 have h1:(mset l).length<=(Dt.set (mdots l)).length:=List.length_filterMap_le _ _;have h2:=Dt.addAll_length (mdots l) [];have h3:(mdots l).length=l.length:=by simp[mdots]
 unfold Dt.set at h1;simp only[List.length_nil] at h2
 omega
theorem dl_irrefl (a:Mark):¬DL a a:=Dt.less_irrefl a.1
theorem dl_trans {a b c:Mark}(h:DL a b)(k:DL b c):DL a c:=Dt.less_trans h k
theorem mset_of {l l':List Mark}(hf:Fn l)(hp:l'.Perm l)(hs:l'.Pairwise (λa b=>¬DL b a)):cpt l'=mset l:=by
 refine pw_ext dl_irrefl dl_trans (cpt_pw (R:=DL) dl_trans hs λa ha b hb=>?_) (mset_pw l) λx=>?_
 ·rcases Dt.less_total a.1 b.1 with q|q|q
  ·exact .inl q
  ·exact .inr (.inl (hf a (hp.mem_iff.1 ha) b (hp.mem_iff.1 hb) q))
  ·exact .inr (.inr q)
 ·rw [cpt_mem,mset_mem hf]
  exact hp.mem_iff
end Go.Pn.Jn
end
section
namespace Go.Pn.Jn
open Go Go.Pn Go.Pn.Cn
theorem okD_iff {d:Dot}:okD d=true↔Dt.Valid d:=by unfold okD;exact decide_eq_true_iff
theorem has_iff {x:Ctx}{d:Dot}:ctxHas x d=true↔Dt.Valid d∧(d.2<=get x.1 d.1∨d∈x.2):=by
 unfold ctxHas vecHas;rw[Bool.or_eq_true,Bool.and_eq_true,Bool.and_eq_true,okD_iff,decide_eq_true_iff,decide_eq_true_iff]
 constructor
 ·rintro (⟨h,k⟩|⟨h,k⟩)
  ·exact ⟨h,.inl k⟩
  ·exact ⟨h,.inr k⟩
 ·rintro ⟨h,k|k⟩
  ·exact .inl ⟨h,k⟩
  ·exact .inr ⟨h,k⟩
structure Cmp (x:Ctx):Prop where
 ok:Vc.Ok x.1
 st:Dt.Sset x.2
 va:∀d∈x.2,Dt.Valid d
 far:∀d∈x.2,get x.1 d.1+1<d.2
structure Okx (x:Ctx):Prop where
 ok:Vc.Ok x.1
 st:Dt.Sset x.2
 va:∀d∈x.2,Dt.Valid d
theorem set_iff {l:List Dot}:Dt.isSet l=true↔Dt.Sset l:=by
 constructor
 ·intro h
  have:∀l:List Dot,Dt.isSet l=true->Dt.Sset l:=by
   intro l
   induction l with
   |nil=>intro _;exact List.Pairwise.nil
   |cons a l ih=>
    intro h;cases l with
    |nil=>exact List.pairwise_singleton _ _
    |cons b l=>
     unfold Dt.isSet at h;rw[Bool.and_eq_true,decide_eq_true_iff] at h;have ih:=ih h.2;refine List.pairwise_cons.2 ⟨λz hz=>?_,ih⟩;rcases List.mem_cons.1 hz with e|hz
     ·rw [e];exact h.1
     ·exact Dt.less_trans h.1 ((List.pairwise_cons.1 ih).1 z hz)
  exact this l h
 ·intro h
  refine Dt.isSet_yes λi hi=>?_
  exact List.pairwise_iff_getElem.1 h i (i+1) (by omega) hi (by omega)
theorem nany {α:Type}{p:α->Bool}{l:List α}:(!l.any p)=true↔∀x∈l,p x=false:=by
 constructor
 ·exact any_false
 ·intro h
  rw[Bool.not_eq_true',List.any_eq_false];intro x hx;rw[h x hx]
  decide
theorem badD_iff {d:Dot}:badD d=false↔Dt.Valid d:=by
 unfold badD;rw[Bool.not_eq_false'];exact okD_iff
theorem okx_iff {x:Ctx}:ctxValid x=true↔Okx x:=by
 unfold ctxValid;rw[Bool.and_eq_true,Bool.and_eq_true,Vc.ok_iff,set_iff,nany]
 constructor
 ·rintro ⟨h1,h2,h3⟩
  exact ⟨h1,h2,λd hd=>badD_iff.1 (h3 d hd)⟩
 ·rintro ⟨h1,h2,h3⟩
  exact ⟨h1,h2,λd hd=>badD_iff.2 (h3 d hd)⟩
theorem cmp_iff {x:Ctx}:isCompact x=true↔Cmp x:=by
 unfold isCompact;rw[Bool.and_eq_true,okx_iff,nany];unfold near
 constructor
 ·rintro ⟨h,k⟩
  exact ⟨h.ok,h.st,h.va,λd hd=>by have:=of_decide_eq_false (k d hd);omega⟩
 ·intro h
  exact ⟨⟨h.ok,h.st,h.va⟩,λd hd=>dF (by have:=h.far d hd;omega)⟩
theorem Cmp.okx {x:Ctx}(h:Cmp x):Okx x:=⟨h.ok,h.st,h.va⟩
theorem get_le {v:List Dot}(h:Vc.Ok v)(r:Int):get v r<=4294967295∧(get v r≠0->1<=r∧r<=65535):=by
 by_cases hz:get v r=0
 ·exact ⟨by omega,λq=>absurd hz q⟩
 ·obtain ⟨d,hd,rfl⟩:=Vc.get_some hz
  have hv:=h.2 d hd;rw[Vc.get_mem h hd];unfold Dt.Valid at hv;exact ⟨by omega,λ_=>by omega⟩
def cstep (x:Ctx)(d:Dot):Ctx:=if d.2>get x.1 d.1+1 then (x.1,x.2++[d]) else if d.2=get x.1 d.1+1 then (Vc.mrg x.1 [d],x.2) else x
def ccompact (x:Ctx):Ctx:=x.2.foldl cstep (x.1,[])
theorem ok_one {d:Dot}(h:Dt.Valid d):Vc.Ok [d]:=⟨List.pairwise_singleton _ _,λe he=>by rw[List.mem_singleton.1 he];exact h⟩
theorem get_one (d:Dot)(r:Int):get [d] r=if d.1=r then d.2 else 0:=by rw[Vc.get_cons,Vc.get_nil]
theorem cstep_ok {x:Ctx}{d:Dot}(hx:Cmp x)(hd:Dt.Valid d)(hl:∀e∈x.2,Dt.Less e d):Cmp (cstep x d)∧(∀e,ctxHas (cstep x d) e=true↔ctxHas x e=true∨e=d)∧∀e∈(cstep x d).2,e∈x.2∨e=d:=by
 unfold cstep;have h0:=Vc.get_ge hx.ok d.1
 split
 ·rename_i hg
  refine ⟨⟨hx.ok,?_,?_,?_⟩,?_,?_⟩
  ·exact List.pairwise_append.2 ⟨hx.st,List.pairwise_singleton _ _,λa ha b hb=>by rw[List.mem_singleton.1 hb];exact hl a ha⟩
  ·intro e he
   rcases List.mem_append.1 he with q|q
   ·exact hx.va e q
   ·rw [List.mem_singleton.1 q];exact hd
  ·intro e he
   rcases List.mem_append.1 he with q|q
   ·exact hx.far e q
   ·rw [List.mem_singleton.1 q];exact hg
  ·intro e
   rw[has_iff,has_iff];dsimp only;rw[List.mem_append,List.mem_singleton]
   constructor
   ·rintro ⟨h1,h2|h2|h2⟩
    ·exact .inl ⟨h1,.inl h2⟩
    ·exact .inl ⟨h1,.inr h2⟩
    ·exact .inr h2
   ·rintro (⟨h1,h2|h2⟩|h2)
    ·exact ⟨h1,.inl h2⟩
    ·exact ⟨h1,.inr (.inl h2)⟩
    ·exact ⟨h2 ▸ hd,.inr (.inr h2)⟩
  ·intro e he
   rcases List.mem_append.1 he with q|q
   ·exact .inl q
   ·exact .inr (List.mem_singleton.1 q)
 ·split
  ·rename_i hg he
   have hm:=Vc.ok_mrg hx.ok (ok_one hd);have hget:=λr=>Vc.get_mrg hx.ok (ok_one hd) r
   have hne:∀e∈x.2,e.1≠d.1:=by
    intro e hm hq;have h1:=hx.far e hm;have h2:=hl e hm;unfold Dt.Less at h2;rw[hq] at h1 h2
    omega
   refine ⟨⟨hm,hx.st,hx.va,?_⟩,?_,λe he=>.inl he⟩
   ·intro e hm
    have h1:=hx.far e hm;have h3:=hne e hm;dsimp only;rw[hget,get_one,if_neg λq=>h3 q.symm];have:=Vc.get_ge hx.ok e.1
    omega
   ·intro e
    rw[has_iff,has_iff];dsimp only;rw[hget,get_one]
    constructor
    ·rintro ⟨h1,h2|h2⟩
     ·split at h2
      ·rename_i hq
       by_cases hc:e.2<=get x.1 e.1
       ·exact .inl ⟨h1,.inl hc⟩
       ·refine .inr (Prod.ext hq.symm ?_)
        rw[<-hq] at hc h2
        omega
      ·refine .inl ⟨h1,.inl ?_⟩
       have:=Vc.get_ge hx.ok e.1
       omega
     ·exact .inl ⟨h1,.inr h2⟩
    ·rintro (⟨h1,h2|h2⟩|h2)
     ·exact ⟨h1,.inl (by omega)⟩
     ·exact ⟨h1,.inr h2⟩
     ·subst h2
      exact ⟨hd,.inl (by rw[if_pos rfl];omega)⟩
  ·rename_i hg he
   refine ⟨hx,λe=>⟨.inl,?_⟩,λe he=>.inl he⟩;rintro (h|h)
   ·exact h
   ·subst h
    exact has_iff.2 ⟨hd,.inl (by omega)⟩
theorem cfold_ok:∀(l:List Dot) {x:Ctx},Cmp x->(∀d∈l,Dt.Valid d)->Dt.Sset l->(∀e∈x.2,∀d∈l,Dt.Less e d)->Cmp (l.foldl cstep x)∧∀e,ctxHas (l.foldl cstep x) e=true↔ctxHas x e=true∨e∈l
 |[],x,hx,_,_,_=>⟨hx,λe=>by simp⟩
 |d::l,x,hx,hv,hs,hl=>by
  have p:=List.pairwise_cons.1 hs;obtain ⟨h1,h2,h3⟩:=cstep_ok hx (hv d (.head _)) λe he=>hl e he d (.head _)
  obtain ⟨h4,h5⟩:=cfold_ok l h1 (λe he=>hv e (.tail _ he)) p.2 λe he f hf=>by
   rcases h3 e he with q|q
   ·exact hl e q f (.tail _ hf)
   ·rw [q];exact p.1 f hf
  refine ⟨h4,λe=>?_⟩;rw[List.foldl_cons,h5,h2,List.mem_cons]
  constructor
  ·rintro ((h|h)|h)
   ·exact .inl h
   ·exact .inr (.inl h)
   ·exact .inr (.inr h)
  ·rintro (h|h|h)
   ·exact .inl (.inl h)
   ·exact .inl (.inr h)
   ·exact .inr h
theorem ccompact_ok {x:Ctx}(h:Okx x):Cmp (ccompact x)∧∀e,ctxHas (ccompact x) e=true↔ctxHas x e=true:=by
 obtain ⟨h1,h2⟩:=cfold_ok x.2 (x:=(x.1,[])) ⟨h.ok,List.Pairwise.nil,by simp,by simp⟩ h.va h.st (by simp);refine ⟨h1,λe=>?_⟩;unfold ccompact;rw[h2,has_iff,has_iff]
 constructor
 ·rintro (⟨q,k|k⟩|q)
  ·exact ⟨q,.inl k⟩
  ·cases k
  ·exact ⟨h.va e q,.inr q⟩
 ·rintro ⟨q,k|k⟩
  ·exact .inl ⟨q,.inl k⟩
  ·exact .inr k
theorem mg_mem:∀(n:Nat) (x y:List Dot),x.length+y.length<=n->∀d,d∈Dt.mg true true true n x y↔d∈x∨d∈y:=by
 intro n
 induction n with
 |zero=>
  intro x y h d;have hx:x=[]:=List.eq_nil_of_length_eq_zero (by omega);have hy:y=[]:=List.eq_nil_of_length_eq_zero (by omega);subst hx hy
  simp[Dt.mg]
 |succ n ih=>
  intro x y h d;cases x with
  |nil=>
   cases y with
   |nil=>simp[Dt.mg]
   |cons b y=>
    rw[Dt.mg,if_pos rfl,List.mem_append,ih [] y (by simp at h ⊢;omega)]
    simp
  |cons a x=>
   cases y with
   |nil=>
    rw[Dt.mg,if_pos rfl,List.mem_append,ih x [] (by simp at h ⊢;omega)]
    simp
   |cons b y=>
    simp only[List.length_cons] at h;rw[Dt.mg]
    split
    ·rw [if_pos rfl,List.mem_append,ih x (b::y) (by simp;omega)]
     simp only[List.mem_cons,List.not_mem_nil,or_false];exact or_assoc.symm
    ·split
     ·rw [if_pos rfl,List.mem_append,ih (a::x) y (by simp;omega)]
      simp only[List.mem_cons,List.not_mem_nil,or_false]
      constructor
      ·rintro (q|q|q)
       ·exact .inr (.inl q)
       ·exact .inl q
       ·exact .inr (.inr q)
      ·rintro (q|q|q)
       ·exact .inr (.inl q)
       ·exact .inl q
       ·exact .inr (.inr q)
     ·rename_i h1 h2
      have hab:a=b:=by
       rcases Dt.less_total a b with q|q|q
       ·exact absurd q h1
       ·exact q
       ·exact absurd q h2
      subst hab;rw[if_pos rfl,List.mem_append,ih x y (by omega)];simp only[List.mem_cons,List.not_mem_nil,or_false]
      constructor
      ·rintro (q|q|q)
       ·exact .inl (.inl q)
       ·exact .inl (.inr q)
       ·exact .inr (.inr q)
      ·rintro ((q|q)|(q|q))
       ·exact .inl q
       ·exact .inr (.inl q)
       ·exact .inl q
       ·exact .inr (.inr q)
theorem mg_sset:∀(n:Nat) (x y:List Dot),x.length+y.length<=n->Dt.Sset x->Dt.Sset y->Dt.Sset (Dt.mg true true true n x y):=by
 intro n
 induction n with
 |zero=>intro x y _ _ _;simp[Dt.mg,Dt.Sset]
 |succ n ih=>
  intro x y h hx hy;cases x with
  |nil=>
   cases y with
   |nil=>simp[Dt.mg,Dt.Sset]
   |cons b y=>
    have p:=List.pairwise_cons.1 hy;rw[Dt.mg,if_pos rfl];refine List.pairwise_cons.2 ⟨λz hz=>?_,ih [] y (by simp at h ⊢;omega) hx p.2⟩;rcases (mg_mem n [] y (by simp at h ⊢;omega) z).1 hz with q|q
    ·cases q
    ·exact p.1 z q
  |cons a x=>
   have px:=List.pairwise_cons.1 hx;cases y with
   |nil=>
    rw[Dt.mg,if_pos rfl];refine List.pairwise_cons.2 ⟨λz hz=>?_,ih x [] (by simp at h ⊢;omega) px.2 hy⟩;rcases (mg_mem n x [] (by simp at h ⊢;omega) z).1 hz with q|q
    ·exact px.1 z q
    ·cases q
   |cons b y=>
    have py:=List.pairwise_cons.1 hy;simp only[List.length_cons] at h;rw[Dt.mg]
    split
    ·rename_i h1
     rw[if_pos rfl];refine List.pairwise_cons.2 ⟨λz hz=>?_,ih x (b::y) (by simp;omega) px.2 hy⟩;rcases (mg_mem n x (b::y) (by simp;omega) z).1 hz with q|q
     ·exact px.1 z q
     ·rcases List.mem_cons.1 q with q|q
      ·rw [q];exact h1
      ·exact Dt.less_trans h1 (py.1 z q)
    ·split
     ·rename_i h1 h2
      rw[if_pos rfl];refine List.pairwise_cons.2 ⟨λz hz=>?_,ih (a::x) y (by simp;omega) hx py.2⟩;rcases (mg_mem n (a::x) y (by simp;omega) z).1 hz with q|q
      ·rcases List.mem_cons.1 q with q|q
       ·rw [q];exact h2
       ·exact Dt.less_trans h2 (px.1 z q)
      ·exact py.1 z q
     ·rename_i h1 h2
      have hab:a=b:=by
       rcases Dt.less_total a b with q|q|q
       ·exact absurd q h1
       ·exact q
       ·exact absurd q h2
      subst hab;rw[if_pos rfl];refine List.pairwise_cons.2 ⟨λz hz=>?_,ih x y (by omega) px.2 py.2⟩;rcases (mg_mem n x y (by omega) z).1 hz with q|q
      ·exact px.1 z q
      ·exact py.1 z q
def dunion (a b:List Dot):List Dot:=Dt.merge true true true (Dt.set a) (Dt.set b)
theorem dunion_mem (a b:List Dot)(d:Dot):d∈dunion a b↔d∈a∨d∈b:=by
 unfold dunion Dt.merge;rw[mg_mem _ _ _ (Nat.le_refl _),Dt.set_mem,Dt.set_mem]
theorem dunion_sset (a b:List Dot):Dt.Sset (dunion a b):=mg_sset _ _ _ (Nat.le_refl _) (Dt.set_sset _) (Dt.set_sset _)
def cunion (a b:Ctx):Ctx:=ccompact (Vc.mrg a.1 b.1,dunion a.2 b.2)
theorem okx_union {a b:Ctx}(ha:Okx a)(hb:Okx b):Okx (Vc.mrg a.1 b.1,dunion a.2 b.2):=
 ⟨Vc.ok_mrg ha.ok hb.ok,dunion_sset _ _,λd hd=>((dunion_mem _ _ d).1 hd).elim (ha.va d) (hb.va d)⟩
theorem cunion_ok {a b:Ctx}(ha:Okx a)(hb:Okx b):Cmp (cunion a b)∧∀e,ctxHas (cunion a b) e=true↔ctxHas a e=true∨ctxHas b e=true:=by
 obtain ⟨h1,h2⟩:=ccompact_ok (okx_union ha hb);refine ⟨h1,λe=>?_⟩;unfold cunion;rw[h2,has_iff,has_iff,has_iff];dsimp only;rw[Vc.get_mrg ha.ok hb.ok,dunion_mem]
 constructor
 ·rintro ⟨q,k|k|k⟩
  ·by_cases hk:e.2<=get a.1 e.1
   ·exact .inl ⟨q,.inl hk⟩
   ·exact .inr ⟨q,.inl (by omega)⟩
  ·exact .inl ⟨q,.inr k⟩
  ·exact .inr ⟨q,.inr k⟩
 ·rintro (⟨q,k|k⟩|⟨q,k|k⟩)
  ·exact ⟨q,.inl (by omega)⟩
  ·exact ⟨q,.inr (.inl k)⟩
  ·exact ⟨q,.inl (by omega)⟩
  ·exact ⟨q,.inr (.inr k)⟩
theorem dunion_len (a b:List Dot):(dunion a b).length<=a.length+b.length:=by
 have key:∀(n:Nat) (x y:List Dot),(Dt.mg true true true n x y).length<=x.length+y.length:=by
  intro n
  induction n with
  |zero=>intro x y;simp[Dt.mg]
  |succ n ih=>
   intro x y;cases x with
   |nil=>
    cases y with
    |nil=>simp[Dt.mg]
    |cons b y=>rw[Dt.mg,if_pos rfl];have:=ih [] y;simp at this ⊢;omega
   |cons a x=>
    cases y with
    |nil=>rw[Dt.mg,if_pos rfl];have:=ih x [];simp at this ⊢;omega
    |cons b y=>
     rw[Dt.mg]
     split
     ·have:=ih x (b::y);simp at this ⊢;omega
     ·split
      ·have:=ih (a::x) y;simp at this ⊢;omega
      ·have:=ih x y;simp at this ⊢;omega
 have h1:=key ((Dt.set a).length+(Dt.set b).length) (Dt.set a) (Dt.set b);have h2:=Dt.addAll_length a [];have h3:=Dt.addAll_length b [];unfold dunion Dt.merge;unfold Dt.set at*;simp only[List.length_nil] at h2 h3
 omega
theorem cstep_len (x:Ctx)(d:Dot):(cstep x d).1.length<=x.1.length+1∧(cstep x d).2.length<=x.2.length+1:=by
 unfold cstep
 split
 ·simp
 ·split
  ·have:=Vc.of_len (x.1++[d])
   unfold Vc.mrg
   simp at this ⊢
   omega
  ·omega
theorem cfold_len:∀(l:List Dot) (x:Ctx),(l.foldl cstep x).1.length<=x.1.length+l.length∧(l.foldl cstep x).2.length<=x.2.length+l.length
 |[],x=>by simp
 |d::l,x=>by
  have h1:=cstep_len x d;have h2:=cfold_len l (cstep x d);rw[List.foldl_cons,List.length_cons]
  omega
theorem ccompact_len (x:Ctx):(ccompact x).1.length<=x.1.length+x.2.length∧(ccompact x).2.length<=x.2.length:=by
 have:=cfold_len x.2 (x.1,[]);unfold ccompact;simp only[List.length_nil] at this
 omega
theorem cunion_len (a b:Ctx):(cunion a b).1.length<=a.1.length+b.1.length+(a.2.length+b.2.length)∧(cunion a b).2.length<=a.2.length+b.2.length:=by
 have h1:=ccompact_len (Vc.mrg a.1 b.1,dunion a.2 b.2);have h2:=dunion_len a.2 b.2;have h3:=Vc.of_len (a.1++b.1);unfold cunion;unfold Vc.mrg at*;simp only[List.length_append] at h1 h3
 omega
theorem cstep_dots (x:Ctx)(d:Dot):(cstep x d).1.length+(cstep x d).2.length<=x.1.length+x.2.length+1:=by
 unfold cstep
 split
 ·simp;omega
 ·split
  ·have:=Vc.of_len (x.1++[d])
   unfold Vc.mrg
   simp at this ⊢
   omega
  ·omega
theorem cfold_dots:∀(l:List Dot) (x:Ctx),(l.foldl cstep x).1.length+(l.foldl cstep x).2.length<=x.1.length+x.2.length+l.length
 |[],x=>by simp
 |d::l,x=>by
  have h1:=cstep_dots x d;have h2:=cfold_dots l (cstep x d);rw[List.foldl_cons,List.length_cons]
  omega
end Go.Pn.Jn
end
section
namespace Go.Pn.Jn
open Go Go.Pn Go.Pn.Cn
theorem sub_len {α:Type}[DecidableEq α]:∀{s l:List α},s.Nodup->(∀x∈s,x∈l)->s.length<=l.length
 |[],_,_,_=>Nat.zero_le _
 |a::s,l,h,k=>by
  have p:=List.nodup_cons.1 h;have ha:=k a (.head _);have:=sub_len (s:=s) (l:=l.erase a) p.2 λx hx=>(List.mem_erase_of_ne (λq=>p.1 (by rw[<-q];exact hx))).2 (k x (.tail _ hx))
  rw[List.length_erase_of_mem ha] at this;have hl:0<l.length:=List.length_pos_of_mem ha;simp only[List.length_cons]
  omega
theorem not_once {α:Type}[DecidableEq α]:∀{l:List α},¬l.Nodup->∃l':List α,l'.length<l.length∧∀x∈l,x∈l'
 |[],h=>absurd List.nodup_nil h
 |a::l,h=>by
  by_cases ha:a∈l
  ·exact ⟨l,by simp,λx hx=>(List.mem_cons.1 hx).elim (λq=>q ▸ ha) id⟩
  ·obtain ⟨l',h1,h2⟩:=not_once (l:=l) λq=>h (List.nodup_cons.2 ⟨ha,q⟩)
   refine ⟨a::l',by simp;omega,λx hx=>?_⟩;rcases List.mem_cons.1 hx with q|q
   ·exact q ▸ .head _
   ·exact .tail _ (h2 x q)
theorem sset_nodup {l:List Dot}(h:Dt.Sset l):l.Nodup:=by
 refine List.Pairwise.imp ?_ h;intro a b q e;rw[e] at q;exact Dt.less_irrefl _ q
theorem once_iff {l:List Dot}:(Dt.set l).length=l.length↔l.Nodup:=by
 have hn:=sset_nodup (Dt.set_sset l)
 constructor
 ·intro h
  apply Classical.byContradiction
  intro hc;obtain ⟨l',h1,h2⟩:=not_once hc;have:=sub_len hn λx hx=>h2 x ((Dt.set_mem l x).1 hx)
  omega
 ·intro h
  have h1:=sub_len hn λx hx=>(Dt.set_mem l x).1 hx
  have h2:=sub_len h λx hx=>(Dt.set_mem l x).2 hx
  omega
def In (l:List Item)(s:Name)(m:Mark):Prop:=∃x∈l,x.1=s∧m∈x.2
structure GoodC (c:Cart):Prop where
 cx:Cmp c.1
 nm:c.2.Pairwise (λa b=>BL a.1 b.1)
 ok:∀x∈c.2,okName x.1=true∧x.2≠[]∧Dt.Sset (mdots x.2)∧∀m∈x.2,okM m=true
 un:∀s s' m m',In c.2 s m->In c.2 s' m'->m.1=m'.1->s=s'∧m=m'
 mi:∀s m,In c.2 s m->ctxHas c.1 m.1=true
theorem names_iff {l:List Item}:names l=true↔l.Pairwise (λa b=>BL a.1 b.1):=by
 unfold names
 constructor
 ·have:∀l:List Item,adj (λa b=>Op.bytesLess a.1 b.1) l=true->l.Pairwise (λa b=>BL a.1 b.1):=by
   intro l
   induction l with
   |nil=>intro _;exact List.Pairwise.nil
   |cons a l ih=>
    intro h;cases l with
    |nil=>exact List.pairwise_singleton _ _
    |cons b l=>
     unfold adj at h;rw[Bool.and_eq_true] at h;have ih:=ih h.2;refine List.pairwise_cons.2 ⟨λz hz=>?_,ih⟩;rcases List.mem_cons.1 hz with e|hz
     ·rw [e];exact h.1
     ·exact bl_trans (a:=a.1) h.1 ((List.pairwise_cons.1 ih).1 z hz)
  exact this l
 ·intro h
  exact adj_yes λi hi=>List.pairwise_iff_getElem.1 h i (i+1) (by omega) hi (by omega)
theorem badI_iff {x:Item}:badI x=false↔okName x.1=true∧x.2≠[]∧Dt.Sset (mdots x.2)∧∀m∈x.2,okM m=true:=by
 unfold badI;rw[Bool.or_eq_false_iff,Bool.or_eq_false_iff,Bool.or_eq_false_iff,Bool.not_eq_false',Bool.not_eq_false',set_iff,decide_eq_false_iff_not,List.any_eq_false];unfold badM
 constructor
 ·rintro ⟨h1,h2,h3,h4⟩
  refine ⟨h1,λq=>h2 (by rw[q];rfl),h3,λm hm=>?_⟩;have:=h4 m hm
  simpa using this
 ·rintro ⟨h1,h2,h3,h4⟩
  refine ⟨h1,λq=>h2 (List.eq_nil_of_length_eq_zero q),h3,λm hm=>?_⟩;rw[h4 m hm]
  decide
theorem mdots_inj {l:List Mark}(h:(mdots l).Nodup){m m':Mark}(hm:m∈l)(hm':m'∈l)(e:m.1=m'.1):m=m':=by
 have h2:l.Pairwise (λa b=>a.1≠b.1):=by
  unfold mdots at h;exact List.pairwise_map.1 h
 rcases pw_two h2 hm hm' with q|q|q
 ·exact q
 ·exact absurd e q
 ·exact absurd e.symm q
theorem flat_once {l:List Item}(ok:∀x∈l,Dt.Sset (mdots x.2))(nm:l.Pairwise (λa b=>BL a.1 b.1)):(l.flatMap λx=>mdots x.2).Nodup↔∀s s' m m',In l s m->In l s' m'->m.1=m'.1->s=s'∧m=m':=by
 constructor
 ·intro h
  have h2:=List.pairwise_flatMap.1 h;rintro s s' m m' ⟨x,hx,rfl,hm⟩ ⟨y,hy,rfl,hm'⟩ e;rcases pw_two h2.2 hx hy with q|q|q
  ·subst q
   exact ⟨rfl,mdots_inj (h2.1 x hx) hm hm' e⟩
  ·exact absurd e (q m.1 (List.mem_map.2 ⟨m,hm,rfl⟩) m'.1 (List.mem_map.2 ⟨m',hm',rfl⟩))
  ·exact absurd e.symm (q m'.1 (List.mem_map.2 ⟨m',hm',rfl⟩) m.1 (List.mem_map.2 ⟨m,hm,rfl⟩))
 ·intro h
  refine List.pairwise_flatMap.2 ⟨λx hx=>sset_nodup (ok x hx),?_⟩;refine (List.pairwise_iff_forall_sublist.2 ?_);intro x y hxy d hd e he q;obtain ⟨m,hm,rfl⟩:=List.mem_map.1 hd;obtain ⟨m',hm',rfl⟩:=List.mem_map.1 he;have hx:x∈l:=hxy.subset (by simp);have hy:y∈l:=hxy.subset (by simp);have h1:=(h x.1 y.1 m m' ⟨x,hx,rfl,hm⟩ ⟨y,hy,rfl,hm'⟩ q).1;have h2:=List.pairwise_iff_forall_sublist.1 nm hxy;rw[h1] at h2;exact bl_irrefl _ h2
theorem flat_count (l:List Item):(l.flatMap λx=>mdots x.2).length=count l:=by
 induction l with
 |nil=>rfl
 |cons x l ih=>
  rw[List.flatMap_cons,List.length_append,ih];unfold count mdots
  simp
theorem good_iff {c:Cart}:valid c=true↔GoodC c:=by
 unfold valid itemsValid;rw[Bool.and_eq_true,Bool.and_eq_true,Bool.and_eq_true,Bool.and_eq_true,cmp_iff,nany,names_iff,decide_eq_true_iff,decide_eq_true_iff,<-flat_count];unfold dotsOf;rw[once_iff];have hmiss:(missing c.1 (Dt.set (c.2.flatMap λx=>mdots x.2))).length=0↔∀s m,In c.2 s m->ctxHas c.1 m.1=true:=by
  unfold missing;rw[List.length_eq_zero_iff,List.filter_eq_nil_iff]
  constructor
  ·rintro h s m ⟨x,hx,rfl,hm⟩
   have:=h m.1 ((Dt.set_mem _ _).2 ((Dt.set_mem _ _).2 (List.mem_flatMap.2 ⟨x,hx,List.mem_map.2 ⟨m,hm,rfl⟩⟩)))
   simpa using this
  ·intro h d hd
   obtain ⟨x,hx,hm⟩:=List.mem_flatMap.1 ((Dt.set_mem _ _).1 ((Dt.set_mem _ _).1 hd));obtain ⟨m,hm2,rfl⟩:=List.mem_map.1 hm;rw[h x.1 m ⟨x,hx,rfl,hm2⟩]
   decide
 rw[hmiss]
 constructor
 ·rintro ⟨h1,⟨h2,h3,h4⟩,h5⟩
  have ok:=λx hx=>badI_iff.1 (h2 x hx)
  exact ⟨h1,h3,ok,(flat_once (λx hx=>(ok x hx).2.2.1) h3).1 h4,h5⟩
 ·intro h
  exact ⟨h.cx,⟨λx hx=>badI_iff.2 (h.ok x hx),h.nm,(flat_once (λx hx=>(h.ok x hx).2.2.1) h.nm).2 h.un⟩,h.mi⟩
def marks (l:List Item)(s:Name):List Mark:=match l.find? (λx=>decide (x.1=s)) with
 |some x=>x.2
 |none=>[]
def keeps (o:List Mark)(x:Ctx)(m:Mark):Bool:=match o.find? (λy=>decide (y.1=m.1)) with
 |some y=> !decide (ML m y)
 |none=> !ctxHas x m.1
def stay (l o:List Mark)(x:Ctx):List Mark:=l.filter (keeps o x)
def both (a b:Cart)(s:Name):List Mark:=stay (marks a.2 s) (marks b.2 s) b.1++stay (marks b.2 s) (marks a.2 s) a.1
def item (a b:Cart)(s:Name):Item:=(s,mset (both a b s))
def namesOf (c:Cart):List Name:=c.2.map (·.1)
def allNames (a b:Cart):List Name:=nset (namesOf a++namesOf b)
def jitems (a b:Cart)(l:List Name):List Item:=(l.map (item a b)).filter λx=>decide (0<x.2.length)
def join (a b:Cart):Cart:=(cunion a.1 b.1,jitems a b (allNames a b))
theorem marks_mem {c:Cart}(h:GoodC c)(s:Name)(m:Mark):m∈marks c.2 s↔In c.2 s m:=by
 unfold marks;cases hf:c.2.find? (λx=>decide (x.1=s)) with
 |none=>
  constructor
  ·intro q;cases q
  ·rintro ⟨x,hx,e,_⟩
   have:=List.find?_eq_none.1 hf x hx;rw[e] at this
   simp at this
 |some x=>
  have h1:=List.mem_of_find?_eq_some hf;have h2:=List.find?_some hf;simp only[decide_eq_true_eq] at h2
  constructor
  ·intro q;exact ⟨x,h1,h2,q⟩
  ·rintro ⟨y,hy,e,hm⟩
   rcases pw_two h.nm h1 hy with k|k|k
   ·rw [k];exact hm
   ·rw [h2,e] at k;exact absurd k (bl_irrefl _)
   ·rw [h2,e] at k;exact absurd k (bl_irrefl _)
def Stays (b:Cart)(s:Name)(m:Mark):Prop:=ctxHas b.1 m.1=false∨∃m',In b.2 s m'∧m'.1=m.1∧¬ML m m'
theorem keeps_iff {b:Cart}(hb:GoodC b)(s:Name)(m:Mark):keeps (marks b.2 s) b.1 m=true↔Stays b s m:=by
 unfold keeps Stays;cases hf:(marks b.2 s).find? (λy=>decide (y.1=m.1)) with
 |none=>
  dsimp only;rw[Bool.not_eq_true']
  constructor
  ·exact .inl
  ·rintro (q|⟨m',h1,h2,_⟩)
   ·exact q
   ·have:=List.find?_eq_none.1 hf m' ((marks_mem hb s m').2 h1)
    rw[h2] at this
    simp at this
 |some y=>
  have h1:=(marks_mem hb s y).1 (List.mem_of_find?_eq_some hf);have h2:=List.find?_some hf;simp only[decide_eq_true_eq] at h2;dsimp only;rw[Bool.not_eq_true',decide_eq_false_iff_not]
  constructor
  ·intro q;exact .inr ⟨y,h1,h2,q⟩
  ·rintro (q|⟨m',k1,k2,k3⟩)
   ·have:=hb.mi s y h1
    rw[h2,q] at this;cases this
   ·rw [(hb.un s s y m' h1 k1 (h2.trans k2.symm)).2]
    exact k3
def JIn (a b:Cart)(s:Name)(m:Mark):Prop:=(In a.2 s m∧Stays b s m)∨(In b.2 s m∧Stays a s m)
theorem both_mem {a b:Cart}(ha:GoodC a)(hb:GoodC b)(s:Name)(m:Mark):m∈both a b s↔JIn a b s m:=by
 unfold both stay JIn;rw[List.mem_append,List.mem_filter,List.mem_filter,marks_mem ha,marks_mem hb,keeps_iff hb,keeps_iff ha]
theorem jin_un {a b:Cart}(ha:GoodC a)(hb:GoodC b){s s':Name}{m m':Mark}(h:JIn a b s m)(k:JIn a b s' m')(e:m.1=m'.1):s=s'∧m=m':=by
 have cross:∀{a b:Cart},GoodC a->GoodC b->∀{s s':Name} {m m':Mark},In a.2 s m->Stays b s m->In b.2 s' m'->Stays a s' m'->m.1=m'.1->s=s'∧m=m':=by
  intro a b ha hb s s' m m' h1 h2 k1 k2 e;rcases h2 with h2|⟨n,n1,n2,n3⟩
  ·have:=hb.mi s' m' k1
   rw[<-e,h2] at this;cases this
  ·rcases k2 with k2|⟨n',n1',n2',n3'⟩
   ·have:=ha.mi s m h1
    rw[e,k2] at this;cases this
   ·obtain ⟨q1,q2⟩:=hb.un s s' n m' n1 k1 (n2.trans e)
    obtain ⟨q3,q4⟩:=ha.un s s' m n' h1 n1' (e.trans n2'.symm);refine ⟨q1,?_⟩;rw[q2] at n3;rw[<-q4] at n3';rcases ml_total m m' with q|q|q
    ·exact absurd q n3
    ·exact q
    ·exact absurd q n3'
 rcases h with ⟨h1,h2⟩|⟨h1,h2⟩<;>rcases k with ⟨k1,k2⟩|⟨k1,k2⟩
 ·exact ha.un _ _ _ _ h1 k1 e
 ·exact cross ha hb h1 h2 k1 k2 e
 ·obtain ⟨q1,q2⟩:=cross ha hb k1 k2 h1 h2 e.symm
  exact ⟨q1.symm,q2.symm⟩
 ·exact hb.un _ _ _ _ h1 k1 e
theorem both_fn {a b:Cart}(ha:GoodC a)(hb:GoodC b)(s:Name):Fn (both a b s):=λm hm m' hm' e=>(jin_un ha hb ((both_mem ha hb s m).1 hm) ((both_mem ha hb s m').1 hm') e).2
theorem jin_in {a b:Cart}{s:Name}{m:Mark}(h:JIn a b s m):In a.2 s m∨In b.2 s m:=h.elim (λq=>.inl q.1) (λq=>.inr q.1)
theorem join_in {a b:Cart}(ha:GoodC a)(hb:GoodC b)(s:Name)(m:Mark):In (join a b).2 s m↔JIn a b s m:=by
 unfold join jitems;dsimp only
 constructor
 ·rintro ⟨x,hx,rfl,hm⟩
  obtain ⟨t,_,rfl⟩:=List.mem_map.1 (List.mem_filter.1 hx).1;unfold item at hm ⊢;exact (both_mem ha hb _ m).1 ((mset_mem (both_fn ha hb _) m).1 hm)
 ·intro h
  have hm:m∈(item a b s).2:=(mset_mem (both_fn ha hb _) m).2 ((both_mem ha hb s m).2 h);refine ⟨item a b s,List.mem_filter.2 ⟨List.mem_map.2 ⟨s,?_,rfl⟩,dT (List.length_pos_of_mem hm)⟩,rfl,hm⟩;refine (nset_mem _ _).2 (List.mem_append.2 ?_);rcases jin_in h with ⟨x,hx,e,_⟩|⟨x,hx,e,_⟩
  ·exact .inl (List.mem_map.2 ⟨x,hx,e⟩)
  ·exact .inr (List.mem_map.2 ⟨x,hx,e⟩)
theorem in_okM {c:Cart}(h:GoodC c){s:Name}{m:Mark}(k:In c.2 s m):okM m=true:=by
 obtain ⟨x,hx,_,hm⟩:=k;exact (h.ok x hx).2.2.2 m hm
theorem in_okName {c:Cart}(h:GoodC c){s:Name}{m:Mark}(k:In c.2 s m):okName s=true:=by
 obtain ⟨x,hx,e,_⟩:=k;exact e ▸ (h.ok x hx).1
theorem join_has {a b:Cart}(ha:GoodC a)(hb:GoodC b)(d:Dot):ctxHas (join a b).1 d=true↔ctxHas a.1 d=true∨ctxHas b.1 d=true:=(cunion_ok ha.cx.okx hb.cx.okx).2 d
theorem join_good {a b:Cart}(ha:GoodC a)(hb:GoodC b):GoodC (join a b) where
 cx:=(cunion_ok ha.cx.okx hb.cx.okx).1
 nm:=by
  unfold join jitems;dsimp only;refine List.Pairwise.filter _ ?_;rw[List.pairwise_map];exact nset_pw _
 ok:=by
  intro x hx;have hx0:=hx;unfold join jitems at hx;dsimp only at hx;obtain ⟨h1,h2⟩:=List.mem_filter.1 hx;obtain ⟨t,_,rfl⟩:=List.mem_map.1 h1;have hl:=of_decide_eq_true h2;have hne:(item a b t).2≠[]:=λq=>by rw[q] at hl;exact absurd hl (by decide)
  have all:∀m∈(item a b t).2,JIn a b t m:=λm hm=>(both_mem ha hb _ m).1 ((mset_mem (both_fn ha hb _) m).1 hm)
  refine ⟨?_,hne,List.pairwise_map.2 (mset_pw _),λm hm=>(jin_in (all m hm)).elim (in_okM ha) (in_okM hb)⟩;obtain ⟨m,hm⟩:=List.exists_mem_of_ne_nil _ hne;exact (jin_in (all m hm)).elim (in_okName ha) (in_okName hb)
 un:=λs s' m m' h k e=>jin_un ha hb ((join_in ha hb s m).1 h) ((join_in ha hb s' m').1 k) e
 mi:=λs m h=>(join_has ha hb m.1).2 ((jin_in ((join_in ha hb s m).1 h)).elim (λq=>.inl (ha.mi s m q)) (λq=>.inr (hb.mi s m q)))
theorem find_le {c:Cart}{n:Nat}(h:∀x∈c.2,x.2.length<=n)(s:Name):(marks c.2 s).length<=n:=by
 unfold marks;cases hf:c.2.find? (λx=>decide (x.1=s)) with
 |none=>exact Nat.zero_le _
 |some x=>exact h x (List.mem_of_find?_eq_some hf)
theorem both_len {a b:Cart}{n k:Nat}(ha:∀x∈a.2,x.2.length<=n)(hb:∀x∈b.2,x.2.length<=k)(s:Name):(both a b s).length<=n+k:=by
 unfold both stay;have h1:=find_le ha s;have h2:=find_le hb s;have h3:=List.length_filter_le (keeps (marks b.2 s) b.1) (marks a.2 s);have h4:=List.length_filter_le (keeps (marks a.2 s) a.1) (marks b.2 s);rw[List.length_append]
 omega
theorem jitems_len (a b:Cart):(jitems a b (allNames a b)).length<=a.2.length+b.2.length:=by
 unfold jitems;have h1:=List.length_filter_le (λx:Item=>decide (0<x.2.length)) ((allNames a b).map (item a b));have h2:=nset_len (namesOf a++namesOf b);unfold allNames at*;unfold namesOf at*;simp only[List.length_map,List.length_append] at*
 omega
theorem join_marks {a b:Cart}{n k:Nat}(ha:∀x∈a.2,x.2.length<=n)(hb:∀x∈b.2,x.2.length<=k):∀x∈(join a b).2,x.2.length<=n+k:=by
 intro x hx;unfold join jitems at hx;obtain ⟨t,_,rfl⟩:=List.mem_map.1 (List.mem_filter.1 hx).1;have h1:=mset_len (both a b t);have h2:=both_len ha hb t;unfold item;dsimp only
 omega
end Go.Pn.Jn
end
section
namespace Go.Pn.Jn
open Go Go.Pn Go.Pn.Cn
def orL:List Int->Int
 |[]=>0
 |a::l=>if a≠0 then a else orL l
theorem orL_skip:∀{l:List Int} {k:Nat},(∀i,∀h:i<l.length,i<k->l[i]=0)->orL (l.drop k)=orL l
 |_,0,_=>by rw[List.drop_zero]
 |[],k+1,_=>by rw[List.drop_nil]
 |a::l,k+1,h=>by
  have h0:a=0:=h 0 (by simp) (Nat.succ_pos k);rw[List.drop_succ_cons,orL_skip λi hi hk=>h (i+1) (by simpa using hi) (by omega)];rw[h0]
  rfl
theorem orL_at {l:List Int}{k:Nat}(hk:k<l.length)(h:∀i,∀h:i<l.length,i<k->l[i]=0)(hn:l[k]≠0):l[k]=orL l:=by
 rw[<-orL_skip h,List.drop_eq_getElem_cons hk,orL,if_pos hn]
theorem orL_end {l:List Int}{k:Nat}(hk:l.length<=k)(h:∀i,∀h:i<l.length,i<k->l[i]=0):0=orL l:=by
 rw[<-orL_skip h,List.drop_eq_nil_of_le hk]
 rfl
def ucmp (a b:BitVec 64):Int:=if a<b then-1 else if b<a then 1 else 0
def scmp (a b:Name):Int:=if BL a b then-1 else if BL b a then 1 else 0
theorem scmp_lt (a b:Name):scmp a b<0↔BL a b:=by
 unfold scmp
 split
 ·rename_i h
  exact ⟨λ_=>h,λ_=>by decide⟩
 ·split
  ·rename_i h1 h2
   exact ⟨λh=>absurd h (by decide),λh=>absurd h h1⟩
  ·rename_i h1 h2
   exact ⟨λh=>absurd h (by decide),λh=>absurd h h1⟩
theorem scmp_gt (a b:Name):scmp a b>0↔BL b a:=by
 unfold scmp
 split
 ·rename_i h
  exact ⟨λq=>absurd q (by decide),λq=>absurd (bl_trans h q) (bl_irrefl _)⟩
 ·split
  ·rename_i h1 h2
   exact ⟨λ_=>h2,λ_=>by decide⟩
  ·rename_i h1 h2
   exact ⟨λh=>absurd h (by decide),λh=>absurd h h2⟩
theorem scmp_zero (a b:Name):scmp a b=0↔a=b:=by
 unfold scmp
 split
 ·rename_i h
  exact ⟨λq=>absurd q (by decide),λq=>absurd (q ▸ h) (bl_irrefl _)⟩
 ·split
  ·rename_i h1 h2
   exact ⟨λq=>absurd q (by decide),λq=>absurd (q ▸ h2) (bl_irrefl _)⟩
  ·rename_i h1 h2
   refine ⟨λ_=>?_,λ_=>rfl⟩;rcases bl_total a b with q|q|q
   ·exact absurd q h1
   ·exact q
   ·exact absurd q h2
theorem scmp_one {a b:Name}(h:Op.bytesLess a b=true):(-1:Int)=scmp a b:=(if_pos (show BL a b from h)).symm
theorem scmp_two {a b:Name}(h:Op.bytesLess a b=false)(k:(!(Op.bytesLess a b||a==b))=true):(1:Int)=scmp a b:=by
 have h1:¬BL a b:=λq=>by unfold BL at q;rw[h] at q;cases q
 have h2:¬a=b:=λq=>by rw[h,q] at k;simp at k
 unfold scmp;rw[if_neg h1];rcases bl_total a b with q|q|q
 ·exact absurd q h1
 ·exact absurd q h2
 ·rw [if_pos q]
theorem scmp_three {a b:Name}(h:Op.bytesLess a b=false)(k:(!(Op.bytesLess a b||a==b))=false):(0:Int)=scmp a b:=by
 have h2:a=b:=by rw[h] at k;simpa using k
 exact ((scmp_zero a b).2 h2).symm
theorem mcmp_or (a b:Mark):mcmp a b=orL [ucmp a.2.2 b.2.2,Dt.icmp a.1.1 b.1.1,Dt.icmp a.1.2 b.1.2,Dt.icmp a.2.1 b.2.1]:=by
 unfold mcmp ucmp Dt.icmp ML;simp only[BitVec.lt_def,orL]
 repeat' split
 all_goals omega
theorem mcmp_self (a:Mark):mcmp a a=0:=by
 unfold mcmp;rw[if_neg (ml_irrefl a),if_neg (ml_irrefl a)]
theorem filter_take2 {α:Type}(p:α->Bool){l:List α}{k:Nat}(hk:k<l.length):(l.take (k+1)).filter p=(l.take k).filter p++(if p l[k] then [l[k]] else []):=by
 rw[List.take_succ_eq_append_getElem hk,List.filter_append]
 congr 1
 rw[List.filter_cons];cases p l[k]<;>rfl
theorem find_idx {α:Type}{p:α->Bool}:∀{l:List α},(Cn.idx p l<0->l.find? p=none)∧∀k:Nat,Cn.idx p l=(k:Int)->∃h:k<l.length,l.find? p=some l[k]:=by
 intro l
 constructor
 ·intro h
  refine List.find?_eq_none.2 λx hx hp=>?_
  have h1:=Cn.idx_any (p:=p) l;rw[dF (by omega)] at h1;rw[Cn.any_yes (k:=(List.getElem_of_mem hx).choose) (List.getElem_of_mem hx).choose_spec.choose (by rw[(List.getElem_of_mem hx).choose_spec.choose_spec];exact hp)] at h1;cases h1
 ·intro k h
  obtain ⟨⟨hk,h1⟩,h2⟩:=Cn.idx_at h;refine ⟨hk,List.find?_eq_some_iff_getElem.2 ⟨h1,k,hk,rfl,λj hj=>?_⟩⟩;rw[h2 j (by omega) hj]
  rfl
def sameD (m:Mark)(y:Mark):Bool:=decide (y.1=m.1)
def nameIs {β:Type}(s:Name)(r:Name×β):Bool:=decide (r.1=s)
theorem keeps_no {o:List Mark}{x:Ctx}{m:Mark}(h:Cn.idx (sameD m) o<0):keeps o x m= !ctxHas x m.1:=by
 unfold keeps;rw[show o.find? (λy=>decide (y.1=m.1))=none from find_idx.1 h]
theorem keeps_yes {o:List Mark}{x:Ctx}{m:Mark}{k:Nat}(h:Cn.idx (sameD m) o=(k:Int)):∃hk:k<o.length,keeps o x m=decide (mcmp m o[k]≥0):=by
 obtain ⟨hk,h1⟩:=find_idx.2 k h;refine ⟨hk,?_⟩;unfold keeps;rw[show o.find? (λy=>decide (y.1=m.1))=some o[k] from h1];show (!decide (ML m o[k]))=_;rw[<-decide_not];exact decide_eq_decide.2 (mcmp_ge m o[k]).symm
theorem keeps_yes2 {o:List Mark}{x:Ctx}{m:Mark}(h:¬Cn.idx (sameD m) o<0):∃hk:(Cn.idx (sameD m) o).toNat<o.length,keeps o x m=decide (mcmp m o[(Cn.idx (sameD m) o).toNat]≥0):=
 keeps_yes (k:=(Cn.idx (sameD m) o).toNat) (by omega)
theorem idx_same {α β:Type}{p:α->Bool}{q:β->Bool}:∀{l:List α} {r:List β},l.length=r.length->(∀i,∀h:i<l.length,∀h':i<r.length,p l[i]=q r[i])->Cn.idx p l=Cn.idx q r
 |[],[],_,_=>rfl
 |[],_::_,h,_=>by simp at h
 |_::_,[],h,_=>by simp at h
 |a::l,b::r,h,k=>by
  have h0:p a=q b:=k 0 (by simp) (by simp);have ih:=idx_same (p:=p) (q:=q) (l:=l) (r:=r) (by simpa using h) λi h1 h2=>k (i+1) (by simpa using h1) (by simpa using h2)
  unfold Cn.idx;rw[h0,ih]
theorem marks_no {l:List Item}{s:Name}(h:Cn.idx (nameIs s) l<0):marks l s=[]:=by
 unfold marks;rw[show l.find? (λy=>decide (y.1=s))=none from find_idx.1 h]
theorem marks_yes {l:List Item}{s:Name}{k:Nat}(h:Cn.idx (nameIs s) l=(k:Int)):∃hk:k<l.length,marks l s=l[k].2:=by
 obtain ⟨hk,h1⟩:=find_idx.2 k h;exact ⟨hk,by unfold marks;rw[show l.find? (λy=>decide (y.1=s))=some l[k] from h1]⟩
theorem cstep_far {x:Ctx}{d:Dot}(h:d.2>get x.1 d.1+1):cstep x d=(x.1,x.2++[d]):=if_pos h
theorem cstep_next {x:Ctx}{d:Dot}(h:¬d.2>get x.1 d.1+1)(k:d.2=get x.1 d.1+1):cstep x d=(Vc.mrg x.1 [d],x.2):=by unfold cstep;rw[if_neg h,if_pos k]
theorem cstep_near {x:Ctx}{d:Dot}(h:¬d.2>get x.1 d.1+1)(k:¬d.2=get x.1 d.1+1):cstep x d=x:=by unfold cstep;rw[if_neg h,if_neg k]
theorem cfold_take {l:List Dot}{x:Ctx}{k:Nat}(hk:k<l.length):(l.take (k+1)).foldl cstep x=cstep ((l.take k).foldl cstep x) l[k]:=by
 rw[List.take_succ_eq_append_getElem hk,List.foldl_append]
 rfl
theorem cpre_ok {x:Ctx}(h:Okx x)(k:Nat):Cmp ((x.2.take k).foldl cstep (x.1,[])):=
 (cfold_ok (x.2.take k) (x:=(x.1,[])) ⟨h.ok,List.Pairwise.nil,by simp,by simp⟩ (λd hd=>h.va d (List.mem_of_mem_take hd)) (h.st.sublist (List.take_sublist _ _)) (by simp)).1
theorem jitems_le (a b:Cart)(l:List Name):(jitems a b l).length<=l.length:=by
 unfold jitems;have h1:=List.length_filter_le (λx:Item=>decide (0<x.2.length)) (l.map (item a b));rw[List.length_map] at h1;exact h1
theorem jitems_take {a b:Cart}{l:List Name}{k:Nat}(hk:k<l.length):jitems a b (l.take (k+1))=jitems a b (l.take k)++(if 0<(item a b l[k]).2.length then [item a b l[k]] else []):=by
 unfold jitems;rw[List.take_succ_eq_append_getElem hk,List.map_append,List.filter_append,List.map_singleton]
 congr 1
 rw[List.filter_cons]
 by_cases h:0<(item a b l[k]).2.length
 ·rw [if_pos h,decide_eq_true h];rfl
 ·rw [if_neg h,decide_eq_false h];rfl
end Go.Pn.Jn
end
section
namespace Go.Pn
section
variable {α β:Type}{E:Enc α}{G:Flat β}{w:World}{F:Nat->Prop}{v:Value}{xs:List α}
theorem Sl.raws {R:β->α->Prop}(hs:E.sz=G.sz)(hr:∀cs x,E.rep w F cs x->∃r,cs=G.e r∧R r x)(h:Sl E w F v xs):∃rs:List β,Sl G.enc w F v rs∧rs.length=xs.length∧∀i,∀h:i<rs.length,∀h':i<xs.length,R rs[i] xs[i]:=by
 obtain ⟨hm,h⟩:=h;rcases h with ⟨a,rfl,rfl⟩|⟨b,off,cap,cur,ty,fr,rfl,hF,hb,h1,h2,h3,hx⟩
 ·exact ⟨[],⟨hm,.inl ⟨a,rfl,rfl⟩⟩,rfl,λi h=>absurd h (by simp)⟩
 ·have hc:∀i:Fin xs.length,∃r,(cur.toList.drop (off+i.val*E.sz)).take E.sz=G.e r∧R r xs[i.val]:=λi=>hr _ _ (hx i.val i.isLt)
  obtain ⟨f,hf⟩:=Classical.axiomOfChoice hc;have hl:(List.ofFn f).length=xs.length:=List.length_ofFn;refine ⟨List.ofFn f,⟨by rw[hl];exact hm,.inr ⟨b,off,cap,cur,ty,fr,by rw[hl],hF,hb,by rw[hl];exact h1,h2,λhp=>?_,λi hi=>?_⟩⟩,hl,λi hi hi'=>?_⟩
  ·have:=h3 (by rw[hl] at hp;exact hp)
   rw[hs] at this;exact this
  ·rw [List.getElem_ofFn]
   have:=(hf ⟨i,by rw[hl] at hi;exact hi⟩).1;rw[hs] at this;exact this
  ·rw [List.getElem_ofFn]
   exact (hf ⟨i,hi'⟩).2
theorem Sl.ofRaws {rs:List β}(hs:E.sz=G.sz)(hl:rs.length=xs.length)(hr:∀i,∀h:i<rs.length,∀h':i<xs.length,E.rep w F (G.e rs[i]) xs[i])(h:Sl G.enc w F v rs):Sl E w F v xs:=by
 obtain ⟨hm,h⟩:=h;rcases h with ⟨a,rfl,rfl⟩|⟨b,off,cap,cur,ty,fr,rfl,hF,hb,h1,h2,h3,hx⟩
 ·have:xs=[]:=List.eq_nil_of_length_eq_zero hl.symm
  subst this;exact ⟨hm,.inl ⟨a,rfl,rfl⟩⟩
 ·refine ⟨by rw[<-hl];exact hm,.inr ⟨b,off,cap,cur,ty,fr,by rw[hl],hF,hb,by rw[<-hl];exact h1,h2,λhp=>?_,λi hi=>?_⟩⟩
  ·have:=h3 (by rw[hl];exact hp)
   rw[hs];exact this
  ·have:=hx i (by rw[hl];exact hi)
   have h5:=hr i (by rw[hl];exact hi) hi;rw[hs];rw[show (cur.toList.drop (off+i*G.sz)).take G.sz=G.e rs[i] from this];exact h5
end
section
variable {w:World}{F:Nat->Prop}{v:Value}{l:List ItemT}{tm ti:TypeId}
theorem Sl.items (h:Sl itemE w F v l):∃raw,Sl itemF.enc w F v raw∧Items w F raw l:=by
 obtain ⟨rs,h1,h2,h3⟩:=Sl.raws (G:=itemF) (R:=λr x=>r.1=x.1∧Sl markF.enc w F (Go.Pn.slv r.2) x.2) rfl (λcs x hr=>by
  obtain ⟨vm,rfl,hm⟩:=hr;obtain ⟨a,rfl⟩:=hm.slv;exact ⟨(x.1,a),rfl,rfl,hm⟩) h
 exact ⟨rs,h1,h2,h3⟩
def ItemsK (tm:TypeId)(w:World)(F:Nat->Prop)(k:Nat)(raw:List (List UInt8×Raw))(l:List ItemT):Prop:=
 raw.length=l.length∧∀i,∀h:i<raw.length,∀h':i<l.length,raw[i].1=l[i].1∧(i<k->Fre markF tm w F (slv raw[i].2) l[i].2)
theorem ItemsK.kM {M:Nat->Prop}{w':World}{k:Nat}{raw:List (List UInt8×Raw)}(h:ItemsK tm w F k raw l)(e:Ext M w w')(hM:∀k,F k->¬M k):ItemsK tm w' F k raw l:=
 ⟨h.1,λi h1 h2=>⟨(h.2 i h1 h2).1,λhk=>((h.2 i h1 h2).2 hk).kM e hM⟩⟩
theorem ItemsK.keepA {M:Nat->Prop}{w':World}{k:Nat}{raw:List (List UInt8×Raw)}(h:ItemsK tm w F k raw l)(e:Ext M w w')(hM:∀k,F k->¬M k:=by intro k hk h;first|(have q:=hF k hk;(try dsimp only at h);omega)|(have q:=hF2 k hk;(try dsimp only at h);omega)|(have q:=hFb k hk;(try dsimp only at h);omega)|((try dsimp only at hk);(try dsimp only at h);omega)):ItemsK tm w' F k raw l:=ItemsK.kM h e hM
theorem ItemsK.L {w':World}{k:Nat}{raw:List (List UInt8×Raw)}(h:ItemsK tm w F k raw l)(e:Le w w'):ItemsK tm w' F k raw l:=h.kM e λ_ _=>not_false
theorem ItemsK.weak {F':Nat->Prop}{k:Nat}{raw:List (List UInt8×Raw)}(h:ItemsK tm w F k raw l)(hF:∀k,F k->F' k):ItemsK tm w F' k raw l:=
 ⟨h.1,λi h1 h2=>⟨(h.2 i h1 h2).1,λhk=>((h.2 i h1 h2).2 hk).weak hF⟩⟩
theorem ItemsK.weakA {F':Nat->Prop}{k:Nat}{raw:List (List UInt8×Raw)}(h:ItemsK tm w F k raw l)(hF:∀k,F k->F' k:=by intro q hq;(try dsimp only at hq);(try dsimp only);omega):ItemsK tm w F' k raw l:=ItemsK.weak h hF
theorem Items.k0 {raw:List (List UInt8×Raw)}{F':Nat->Prop}(h:Items w F raw l):ItemsK tm w F' 0 raw l:=⟨h.1,λi h1 h2=>⟨(h.2 i h1 h2).1,λhk=>absurd hk (Nat.not_lt_zero _)⟩⟩
theorem ItemsK.set {k:Nat}{raw:List (List UInt8×Raw)}(h:ItemsK tm w F k raw l)(hk:k<raw.length)(hk':k<l.length){p:Raw}(hm:Fre markF tm w F (slv p) l[k].2):ItemsK tm w F (k+1) (raw.set k (raw[k].1,p)) l:=by
 refine ⟨by rw[List.length_set];exact h.1,λi h1 h2=>?_⟩;rw[List.length_set] at h1;rw[List.getElem_set]
 split
 ·rename_i e
  subst e;exact ⟨(h.2 k hk hk').1,λ_=>hm⟩
 ·rename_i e
  exact ⟨(h.2 i h1 h2).1,λq=>(h.2 i h1 h2).2 (by omega)⟩
theorem ItemsK.all {raw:List (List UInt8×Raw)}{k:Nat}(h:ItemsK tm w F k raw l)(hk:l.length<=k):ItemsF tm w F raw l:=⟨h.1,λi h1 h2=>⟨(h.2 i h1 h2).1,(h.2 i h1 h2).2 (by omega)⟩⟩
end
end Go.Pn
end
section
namespace Go.Pn
open Go.ChangeShapes Go.WideShapes Go.ChangeAt Go.RowKit
def slE {α:Type}(E:Enc α):Enc (List α) where
 sz:=1
 rep:=λw F cs xs=>∃v,cs=[v]∧Sl E w F v xs
 len:=by rintro w F cs x ⟨v,rfl,_⟩;rfl
 one:=by
  rintro w F cs x ⟨v,rfl,h⟩ c hc;obtain rfl:c=v:=by simpa using hc
  obtain ⟨l,cap,rfl,_⟩:=h.val
  rfl
 ext:=by rintro w w' F cs x ⟨v,rfl,h⟩ hw;exact ⟨v,rfl,h.ext hw⟩
 weak:=by rintro w F F' cs x ⟨v,rfl,h⟩ hF;exact ⟨v,rfl,h.weak hF⟩
def prE {α β:Type}(E:Enc α)(E':Enc β):Enc (α×β) where
 sz:=E.sz+E'.sz
 rep:=λw F cs x=>∃a b,cs=a++b∧E.rep w F a x.1∧E'.rep w F b x.2
 len:=by rintro w F cs x ⟨a,b,rfl,h1,h2⟩;rw[List.length_append,E.len h1,E'.len h2]
 one:=by
  rintro w F cs x ⟨a,b,rfl,h1,h2⟩ c hc;rcases List.mem_append.1 hc with h|h
  ·exact E.one h1 c h
  ·exact E'.one h2 c h
 ext:=by rintro w w' F cs x ⟨a,b,rfl,h1,h2⟩ hw;exact ⟨a,b,rfl,E.ext h1 hw,E'.ext h2 hw⟩
 weak:=by rintro w F F' cs x ⟨a,b,rfl,h1,h2⟩ hF;exact ⟨a,b,rfl,E.weak h1 hF,E'.weak h2 hF⟩
def intK (k:IntKind):Flat Int:=⟨1,λx=>[.int k x],λ_=>rfl,by simp[Value.oneCell'],by decide⟩
def strF:Flat (List UInt8):=⟨1,λx=>[str x],λ_=>rfl,by simp[Value.oneCell',str],by decide⟩
theorem cell_at {W:World}{a:Addr}{v:Value}(h:W.cell? a=some v):∃cur ty fr,a.spot=none∧W.heap[a.block]? =some (.cells cur ty fr):=by
 unfold World.cell? at h
 split at h
 ·rename_i c ty fr hh
  split at h
  ·cases h
  ·rename_i hs
   exact ⟨c,ty,fr,by simpa using hs,hh⟩
 ·cases h
structure Opens (P:Program) (W:World) {α:Type} (E:Enc α) (Q:α->Prop) (t:TypeId):Prop where
 sz:P.cellsOf t=E.sz
 op:∀{H:Type} {enc:TypeId×Value->H} {fuel:Nat} {cs:List Value} {x:DataW H×List MemPlace},DataW.trod enc P W 0 (λ_=>true) true fuel t cs=some x->∃d,E.rep W (λk=>k<W.heap.size) cs d∧Q d
section
variable {P:Program}{W:World}{α β:Type}{E:Enc α}{E':Enc β}{Q:α->Prop}{Q':β->Prop}{t e:TypeId}
theorem Opens.int {k:IntKind}(ht:P.underlying t=some (.int k))(hc:P.cellsOf t=1):Opens P W (intK k).enc (λz=>(Lit.int k z).wf=true) t:=
 ⟨hc,λh=>by obtain ⟨z,rfl,_,hw⟩:=DataW.trod_int ht h;exact ⟨z,rfl,hw⟩⟩
theorem Opens.str (ht:P.underlying t=some .string)(hc:P.cellsOf t=1):Opens P W strF.enc (λl=>l.length<=maxLen) t:=
 ⟨hc,λh=>by
  obtain ⟨s,rfl,_,hw⟩:=DataW.trod_string ht h;refine ⟨s.data.toList,?_,by rw[Array.length_toList];exact hw⟩;show [Value.string s]=[Go.Pn.str s.data.toList];unfold Go.Pn.str
  simp⟩
theorem Opens.imp (h:Opens P W E Q t)(hs:E'.sz=E.sz)(hi:∀cs d,E.rep W (λk=>k<W.heap.size) cs d->Q d->∃d',E'.rep W (λk=>k<W.heap.size) cs d'∧Q' d'):Opens P W E' Q' t:=
 ⟨h.sz.trans hs.symm,λhx=>by obtain ⟨d,h1,h2⟩:=h.op hx;exact hi _ d h1 h2⟩
theorem Opens.slice (h:Opens P W E Q e)(ht:P.underlying t=some (.slice e))(hc:P.cellsOf t=1)(hpos:0<E.sz):Opens P W (slE E) (λl=>∀x∈l,Q x) t:=by
 refine ⟨hc,λ{H enc fuel cs x} hx=>?_⟩;rcases Deep.open_slice ht hx with ⟨rfl,_⟩|⟨a,len,cap,m,n,D,Pl,rfl,_,hl,hm,hmm,_,hel⟩
 ·exact ⟨[],⟨_,rfl,Sl.nil _ _ _⟩,by simp⟩
 ·simp only[if_true] at hmm
  subst hmm;rcases Nat.eq_zero_or_pos m with rfl|hpm
  ·obtain rfl:len=0:=by omega
   exact ⟨[],⟨_,rfl,by simp,.inl ⟨_,rfl,rfl⟩⟩,by simp⟩
  ·have each:∀i,i<m->∃q:α,∃cs',W.cells? 0 (a.add (i*E.sz)) E.sz=some cs'∧E.rep W (λk=>k<W.heap.size) cs' q∧Q q:=by
    intro i hi;obtain ⟨cs',h1,h2⟩:=hel i hi;rw[h.sz] at h1;obtain ⟨d,h3,h4⟩:=h.op h2;exact ⟨d,cs',h1,h3,h4⟩
   obtain ⟨d0,_⟩:=each 0 hpm;haveI:Inhabited α:=⟨d0⟩
   obtain ⟨q,hq⟩:=Deep.choose_lt each;have hcell:∀i,i<m->∀j,j<E.sz->∃cs',E.rep W (λk=>k<W.heap.size) cs' (q i)∧cs'.length=E.sz∧W.cell? (a.add (i*E.sz+j))=cs'[j]? :=by
    intro i hi j hj;obtain ⟨cs',h1,h2,_⟩:=hq i hi;obtain ⟨_,hlen,hc⟩:=World.cells?_some h1;refine ⟨cs',h2,hlen,?_⟩;rw[<-hc j hj,Deep.add_add]
   obtain ⟨cs0,_,hl0,hc0⟩:=hcell 0 hpm 0 hpos;rw[Nat.zero_mul,List.getElem?_eq_getElem (by omega)] at hc0;obtain ⟨cur,ty,fr,hsp,hb⟩:=cell_at hc0;obtain ⟨b,off,spot⟩:=a;have hsp':spot=none:=by
    unfold Addr.add at hsp
    simpa using hsp
   subst hsp';have hb':W.heap[b]? =some (.cells cur ty fr):=by
    unfold Addr.add at hb
    simpa using hb
   have hcur:∀k v,W.cell? ⟨b,k,none⟩=some v->cur[k]? =some v:=by
    intro k v hk;unfold World.cell? at hk
    simpa[hb'] using hk
   refine ⟨(List.range len).map q,⟨_,rfl,by simp;omega,.inr ⟨b,off,m,cur,ty,fr,by simp,lt_of_some hb',hb',by simpa using hl,hm,?_,?_⟩⟩,?_⟩
   ·intro _
    obtain ⟨cs1,_,hl1,hc1⟩:=hcell (m-1) (by omega) (E.sz-1) (by omega);rw[List.getElem?_eq_getElem (by omega),Addr.add_none] at hc1;have h2:=(Array.getElem?_eq_some_iff.1 (hcur _ _ hc1)).1;have h3:(m-1)*E.sz+E.sz=m*E.sz:=by
     obtain ⟨m',rfl⟩:∃m',m=m'+1:=⟨m-1,by omega⟩
     rw[Nat.add_sub_cancel,Nat.add_mul,Nat.one_mul]
    omega
   ·intro i hi
    have hi2:i<len:=by simpa using hi
    obtain ⟨cs',h1,h2,_⟩:=hq i (by omega);obtain ⟨_,hlen,hc⟩:=World.cells?_some h1;have e1:(cur.toList.drop (off+i*E.sz)).take E.sz=cs':=by
     apply List.ext_getElem?
     intro j
     by_cases hj:j<E.sz
     ·rw [List.getElem?_take,if_pos hj,List.getElem?_drop]
      have h3:=hc j hj;rw[Deep.add_add,Addr.add_none,List.getElem?_eq_getElem (by omega)] at h3;have h4:=hcur _ _ h3;rw[List.getElem?_eq_getElem (l:=cs') (by omega),Array.getElem?_toList,Nat.add_assoc];exact h4
     ·rw [List.getElem?_eq_none (by rw[List.length_take];omega),List.getElem?_eq_none (by omega)]
    rw[e1]
    simpa using h2
   ·intro x hx
    obtain ⟨i,hi,rfl⟩:=List.mem_map.1 hx;obtain ⟨_,_,_,h3⟩:=hq i (by have:=List.mem_range.1 hi;omega);exact h3
theorem Opens.struct2 {f0 f1:Field}(ht:P.underlying t=some (.struct #[f0,f1]))(h0:Opens P W E Q f0.type)(h1:Opens P W E' Q' f1.type)(o0:f0.offset=0)(o1:f1.offset=E.sz)(hc:P.cellsOf t=E.sz+E'.sz):
 Opens P W (prE E E') (λx=>Q x.1∧Q' x.2) t:=by
 refine ⟨hc,λ{H enc fuel cs x} hx=>?_⟩;obtain ⟨xs,n,_,_,hlen,hxl,hf⟩:=DataW.trod_struct ht hx;have g0:=hf 0 f0 rfl;have g1:=hf 1 f1 rfl;have hx2:xs.length=2:=hxl;rw[List.getElem?_eq_getElem (by omega)] at g0 g1;rw[o0,List.drop_zero,h0.sz] at g0;rw[o1,h1.sz] at g1;obtain ⟨d0,a1,a2⟩:=h0.op g0;obtain ⟨d1,b1,b2⟩:=h1.op g1;refine ⟨(d0,d1),⟨_,_,?_,a1,b1⟩,a2,b2⟩;rw[List.take_of_length_le (l:=cs.drop E.sz) (by simp;omega),List.take_append_drop]
theorem Opens.arg (h:Opens P W E Q t){H:Type}{enc:TypeId×Value->H}{v:Value}{d:DataW H}{p:List MemPlace}(hd:DataW.Trod enc P W 0 (λ_=>true) true t v d p):∃d,E.rep W (λk=>k<W.heap.size) v.cells.toList d∧Q d:=by
 obtain ⟨fuel,hf⟩:=hd;exact h.op hf
theorem arg_slice {H:Type}{enc:TypeId×Value->H}{base:Nat}{v:Value}{d:DataW H}{p:List MemPlace}(h:Opens P W E Q e)(ht:P.underlying t=some (.slice e))(hc:P.cellsOf t=1)(hpos:0<E.sz)
 (hval:Value.okWide P W .any base t v)(hd:DataW.Trod enc P W 0 (λ_=>true) true t v d p):∃l:List α,Sl E W (λk=>k<W.heap.size) v l∧∀x∈l,Q x:=by
 obtain ⟨a,len,cap,rfl⟩:=okWide_slice ht hval;obtain ⟨l,⟨v',h1,h2⟩,h3⟩:=(h.slice ht hc hpos).arg hd;have e1:v'=.slice a len cap:=by simpa[Value.cells] using h1.symm
 subst e1;exact ⟨l,h2,h3⟩
end
end Go.Pn
end
section
namespace Go.Pn
open Go.RowKit Go.Sort
section
open Go.Proofs
variable {α:Type}[Inhabited α]{enc:α->Value}{G:Flat α}{ty:TypeId}{B:Nat}{w:World}{l:List α}{g cap:Nat}
theorem getElemB_list (l:List α){i:Nat}(h:i<l.length):l.toArray[i]! =l[i]:=by
 rw[getElem!_pos l.toArray i (by simpa using h)]
 simp
theorem flat1_get {α:Type}{enc:α->Value}{G:Flat α}(hG:∀x,G.e x=[enc x])(l:List α):l.flatMap G.e=l.map enc:=by
 induction l with
 |nil=>rfl
 |cons a l ih=>rw[List.flatMap_cons,ih,hG];rfl
theorem OwnF.holds (hs:G.sz=1)(hG:∀x,G.e x=[enc x])(h:OwnF G ty B w (.slice (some ⟨g,0,none⟩) l.length cap) l):Holds enc w g 0 l.toArray∧g<w.heap.size:=by
 obtain ⟨h0,hm⟩:=h;rcases h0.2 with ⟨h1,_⟩|⟨g',cap',cur,h1,hb,hg,hn,hc,hsz,ht⟩
 ·cases h1
 ·have e1:g=g':=by cases h1;rfl
  subst e1;refine ⟨?_,lt_of_some hg⟩;intro j hj;have hj2:j<l.length:=by simpa using hj
  rw[hs,Nat.mul_one] at ht hsz;have hjc:j<cur.size:=by omega
  have hcell:cur[j]? =some (enc l.toArray[j]!):=by
   rw[getElemB_list l hj2];have h3:(cur.toList.take l.length)[j]? =some (enc l[j]):=by
    rw[ht,flat1_get hG,List.getElem?_map,List.getElem?_eq_getElem hj2]
    rfl
   rw[List.getElem?_take,if_pos hj2] at h3
   simpa using h3
  constructor
  ·simp only[World.cell?,hg,Nat.zero_add]
   simpa using hcell
  ·simp [World.frozen?,hg]
theorem OwnF.sorted (hs:G.sz=1)(hG:∀x,G.e x=[enc x])(h:OwnF G ty B w (.slice (some ⟨g,0,none⟩) l.length cap) l){d:Array α}(hd:d.size=l.length)(m:Nat)(os:Array Obj):
 OwnF G ty B (sortWorld enc w g 0 m d os) (.slice (some ⟨g,0,none⟩) l.length cap) d.toList∧Ext (λk=>k=g) w (sortWorld enc w g 0 m d os):=by
 obtain ⟨h0,hm⟩:=h;have hsize:(sortWorld enc w g 0 m d os).heap.size=w.heap.size+os.size:=by
  show (w.heap.modify g _++os).size=_;rw[Array.size_append,Array.size_modify]
 rcases h0.2 with ⟨h1,_⟩|⟨g',cap',cur,h1,hb,hg,hn,hc,hsz,ht⟩
 ·cases h1
 ·have e1:g=g':=by cases h1;rfl
  have e2:cap=cap':=by cases h1;rfl
  subst e1;subst e2;have hlt:g<w.heap.size:=lt_of_some hg;rw[hs,Nat.mul_one] at ht hsz
  constructor
  ·have hd2:d.toList.length=l.length:=by simpa using hd
   refine ⟨⟨?_,.inr ⟨g,cap,putCells enc 0 d cur,by rw[hd2],hb,?_,by rw[hd2];exact hn,hc,?_,?_⟩⟩,by rw[hd2];exact hm⟩
   ·rw [G.length]
   ·show (w.heap.modify g _++os)[g]? =_
    rw[Array.getElem?_append_left (by rw[Array.size_modify];exact hlt),Array.getElem?_modify,if_pos rfl,hg]
    rfl
   ·rw [hs,Nat.mul_one]
    unfold putCells;rw[Array.size_mapIdx];exact hsz
   ·rw [hs,Nat.mul_one,flat1_get hG,hd2]
    apply List.ext_getElem?
    intro j;unfold putCells
    by_cases hj:j<l.length
    ·have hjd:j<d.size:=by omega
     rw[List.getElem?_take,if_pos hj,List.getElem?_map,Array.getElem?_toList,Array.getElem?_mapIdx,Array.getElem?_eq_getElem (show j<cur.size by omega)];simp only[Option.map_some,Nat.zero_le,true_and,Nat.zero_add,if_pos hjd,Nat.sub_zero,Array.getElem?_toList,Array.getElem?_eq_getElem hjd];rw[getElem!_pos d j hjd]
    ·rw [List.getElem?_eq_none (by simp;omega),List.getElem?_eq_none (by simp;omega)]
  ·refine ⟨rfl,rfl,rfl,by rw[hsize];omega,λk hk hn=>?_⟩
   show (w.heap.modify g _++os)[k]? =_;rw[Array.getElem?_append_left (by rw[Array.size_modify];exact hk),Array.getElem?_modify,if_neg (λh=>hn h.symm)]
end
end Go.Pn
end
section
namespace Go.Pn
open Go.RowKit
def bare (w:World):World:={w with heap:=#[]}
theorem Ext.bare {M:Nat->Prop}{w w':World}(h:Ext M w w'):Le (Go.Pn.bare w) w':=⟨h.os,h.tape,h.output,Nat.zero_le _,λ_ hk _=>absurd hk (Nat.not_lt_zero _)⟩
theorem zeroCells_flat {α:Type}{G:Flat α}{z:Value}{zx:α}(hzx:z.cells.toList=G.e zx)(n:Nat):(Builtin.zeroCells z.cells n).toList=(List.replicate n zx).flatMap G.e:=by
 have hzsz:z.cells.size=G.sz:=by rw[<-Array.length_toList,hzx,G.len]
 apply List.ext_getElem?
 intro j
 by_cases hj:j<n*G.sz
 ·have hlt:j<((List.replicate n zx).flatMap G.e).length:=by rw[G.length];simpa using hj
  obtain ⟨hi,hu⟩:=G.get (List.replicate n zx) (List.getElem?_eq_getElem hlt);rw[List.getElem?_eq_getElem hlt,<-hu];have hjm:j%G.sz<z.cells.size:=by rw[hzsz];exact Nat.mod_lt _ G.pos
  simp only[Builtin.zeroCells,Array.toList_map,Array.toList_range,List.getElem?_map];rw[hzsz,List.getElem?_range hj];simp only[Option.map_some,List.getElem_replicate];rw[getElem!_pos z.cells _ hjm,<-hzx,Array.getElem?_toList,Array.getElem?_eq_getElem hjm]
 ·rw [List.getElem?_eq_none (by simp[Builtin.zeroCells,hzsz];omega),List.getElem?_eq_none (by rw[G.length];simp;omega)]
section
variable
 {d:Nat}{x y:Operand}{t t' tn ty tr e:TypeId}{pos:String}{after:Array Edge}{α:Type}{G:Flat α}{F:Nat->Prop}
theorem O.capL {l:Option Addr}{k c:Nat}(ht:P.underlying t=some (.slice e))(hx:ev n f x=.slice l k c)(h:O P n ops rest N Z (upd f d (i64 c)) w):
 O P n ops (ZO d (.call {callee:=.builtin .cap,args:=[x].toArray,argTypes:=[t].toArray}) ty pos after::rest) N Z f w:=
 O.val rfl rfl (by
  simp[execOp,resolve,invoke,builtin,hx,Builtin.cap_,run_underlying ht,goInt]) h
theorem O.appZ {i:TypeInfo}{z:Value}{zx:α}{k kn:IntKind}{m B:Nat}(ht:P.underlying t=some (.slice e))(htn:P.underlying tn=some (.int kn))(hi:P.info? e=some i)(hz:i.zero=some z)(hsz:i.size=G.sz)(hzx:z.cells.toList=G.e zx)
 (hx:ev n f x=.slice none 0 0)(hy:ev n f y=.int k (m:Int))(h0:0<m)(hb:m*i.bytes<=281474976710656)(hm:m<=maxLen)(hB:B<=w.heap.size)
 (h:∀b cap w',w.heap.size<=b->m<=cap->OwnF G e B w' (.slice (some ⟨b,0,none⟩) m cap) (List.replicate m zx)->Le w w'->O P n ops rest N Z (upd f d (.slice (some ⟨b,0,none⟩) m cap)) w'):
 O P n ops (ZO d (.call {callee:=.builtin .append,args:=[x,y].toArray,argTypes:=[t,tn].toArray}) tr pos after::rest) N Z f w:=by
 have hr:=Go.Lib.run_append_nil_zeros (P:=P) w t tn tr e i z k kn ht htn hi hz m h0 (by rw[hsz];exact G.pos) (by unfold maxLen at hm;omega) hb;have hge:=grownCap_ge w m 0 e;have hcm:grownCap w m 0 e<=maxLen:=grownCap_le_maxLen w m 0 e hm;have hzsz:z.cells.size=G.sz:=by rw[<-Array.length_toList,hzx,G.len]
 obtain ⟨w1,hw1⟩:∃w1,w1=w.drew.alloc (.cells (Builtin.zeroCells z.cells m++Builtin.zeroCells z.cells (grownCap w m 0 e-m)) e):=⟨_,rfl⟩
 rw[<-hw1] at hr;have hblk:w1.heap[w.heap.size]? =some (.cells (Builtin.zeroCells z.cells m++Builtin.zeroCells z.cells (grownCap w m 0 e-m)) e (0,0)):=by rw[hw1];exact heap_alloc_new w.drew _
 have hle:Le w w1:=by rw[hw1];exact (Le.drew w).trans (Le.alloc _ _)
 refine O.val rfl rfl (w':=w1) ?_ (h w.heap.size (grownCap w m 0 e) w1 (Nat.le_refl _) hge ?_ hle)
 ·have h3:(execOp (ev n f) (ZO d (.call {callee:=.builtin .append,args:=[x,y].toArray,argTypes:=[t,tn].toArray}) tr pos after)).run P w=((Builtin.append_ #[t,tn] tr #[ev n f x,ev n f y]).run P w).andThen (λv w=>.ok (.value v) w):=by
   simp[execOp,resolve,invoke,builtin]
  rw[h3,hx,hy,hr]
  rfl
 ·refine ⟨⟨by rw[G.length],.inr ⟨w.heap.size,_,_,by simp,hB,hblk,by simpa using hge,hcm,?_,?_⟩⟩,by simpa using hm⟩
  ·simp only[Array.size_append,size_zeroCells,hzsz,<-Nat.add_mul]
   congr 1
   omega
  ·rw [Array.toList_append,zeroCells_flat hzx,List.take_append_of_le_length (by rw[G.length];exact Nat.le_refl _),<-G.length,List.take_length]
theorem O.subNil {s:Nat}{kk:IntKind}{hi:Operand}(ht:P.underlying t=some (.slice e))(hsz:∀w,(sizeOf e).run P w=.ok s w)(hx:ev n f x=.slice none 0 0)(hhi:ev n f hi=.int kk 0)
 (h:O P n ops rest N Z (upd f d (.slice none 0 0)) w):
 O P n ops (ZO d (.slice t x .none (some hi) .none) tr pos after::rest) N Z f w:=by
 refine O.val rfl rfl ?_ h;have h3:execOp (ev n f) (ZO d (.slice t x .none (some hi) .none) tr pos after)=(do pure (.value (<-Instr.sliceAt t (ev n f x) .none (some (ev n f hi)) .none))):=rfl;have hbl:(Instr.sliceBound (.int kk 0) 0 .sliceAcap).run P w=.ok 0 w:=by
  simp[Instr.sliceBound,asIntOf]
 have h4:(Instr.sliceAt t (.slice none 0 0) .none (some (.int kk 0)) .none).run P w=.ok (.slice none 0 0) w:=by
  unfold Instr.sliceAt;rw[Sem.run_bind,run_underlying ht,Result.andThen_ok];simp only[];unfold Instr.slice;rw[Sem.run_bind,run_underlying ht,Result.andThen_ok]
  simp[Instr.sliceBounds,hsz,hbl]
 rw[h3,Sem.run_bind,hx,hhi,h4]
 rfl
end
theorem nil_form {n:Nat}{f:Val}{d:Nat}{x:Operand}{a:Addr}{ty:TypeId}{pos:String}{after:Array Edge}(hx:ev n f x=.pointer (some a)):
 ∃X:Sem Value,execOp (ev n f) (ZO d (.nilCheck x) ty pos after)=(do pure (.value (<-X))):=
 ⟨pure (.pointer (some a)),by simp[execOp,hx]⟩
open Go.Lib
section
variable
 {d:Nat}{x y:Operand}{t t' tn ty tr e:TypeId}{pos:String}{after:Array Edge}{α:Type}{F:Nat->Prop}
end
def sliE {α:Type}(E:Enc α):Enc (List α) where
 sz:=1
 rep:=λw F cs xs=>∃v,cs=[v]∧Sl E w F v xs
 len:=by rintro w F cs x ⟨v,rfl,_⟩;rfl
 one:=by
  rintro w F cs x ⟨v,rfl,h⟩ c hc;obtain rfl:c=v:=by simpa using hc
  exact h.oneC
 ext:=by rintro w w' F cs x ⟨v,rfl,h⟩ hw;exact ⟨v,rfl,h.ext hw⟩
 weak:=by rintro w F F' cs x ⟨v,rfl,h⟩ hF;exact ⟨v,rfl,h.weak hF⟩
theorem Sl.lits {α:Type}{E:Enc α}{w:World}{F:Nat->Prop}{b:Nat}{ty:TypeId}{vs:List Value}{xss:List (List α)}(h:Own w b ty vs)(hl:vs.length=xss.length)(hm:xss.length<=maxLen)
 (hs:∀i,∀h1:i<vs.length,∀h2:i<xss.length,Sl E w F vs[i] xss[i]):Sl (sliE E) w (λk=>k=b∨F k) (.slice (some ⟨b,0,none⟩) xss.length xss.length) xss:=by
 obtain ⟨fr,hb,_⟩:=h;refine ⟨hm,.inr ⟨b,0,xss.length,_,ty,fr,rfl,.inl rfl,hb,Nat.le_refl _,hm,?_,λi hi=>?_⟩⟩
 ·intro _
  show 0+xss.length*1<=_
  simp[hl]
 ·refine ⟨vs[i]'(by omega),?_,(hs i (by omega) hi).weak λk hk=>.inr hk⟩
  show (vs.drop (0+i*1)).take 1=_;rw[Nat.zero_add,Nat.mul_one,List.drop_eq_getElem_cons (by omega),List.take_succ_cons,List.take_zero]
theorem Sl.lits1 {α:Type}{E:Enc α}{w:World}{F:Nat->Prop}{b:Nat}{ty:TypeId}{v:Value}{xs:List α}(h:Own w b ty [v])(hs:Sl E w F v xs):Sl (sliE E) w (λk=>k=b∨F k) (.slice (some ⟨b,0,none⟩) 1 1) [xs]:=
 Sl.lits (xss:=[xs]) h rfl (by unfold maxLen;simp) λi h1 h2=>by
  obtain rfl:i=0:=by simp at h1;omega
  exact hs
theorem Sl.lits2 {α:Type}{E:Enc α}{w:World}{F F':Nat->Prop}{b:Nat}{ty:TypeId}{v v':Value}{xs xs':List α}(h:Own w b ty [v,v'])(hs:Sl E w F v xs)(hs':Sl E w F' v' xs'):Sl (sliE E) w (λk=>k=b∨(F k∨F' k)) (.slice (some ⟨b,0,none⟩) 2 2) [xs,xs']:=
 Sl.lits (xss:=[xs,xs']) h rfl (by unfold maxLen;simp) λi h1 h2=>by
  have h3:i=0∨i=1:=by simp at h1;omega
  rcases h3 with rfl|rfl
  ·exact hs.weak λk hk=>.inl hk
  ·exact hs'.weak λk hk=>.inr hk
section
variable
 {d:Nat}{x y:Operand}{t tr e:TypeId}{pos:String}{after:Array Edge}{α:Type}{E:Enc α}{F:Nat->Prop}
theorem O.loadSl {a:Addr}{z:List α}(hag:∀w,(isAgg t).run P w=.ok false w)(hx:ev n f x=.pointer (some a))(ha:At (sliE E) w F a z)
 (h:∀v,Sl E w F v z->O P n ops rest N Z (upd f d v) w):
 O P n ops (ZO d (.load t x) tr pos after::rest) N Z f w:=
 O.load1 hag rfl hx ha λv hv=>by
  obtain ⟨v',h1,h2⟩:=hv;obtain rfl:v=v':=by simpa using h1
  exact h v h2
theorem O.indexA {k:IntKind}{len:Nat}{i:Int}{cs:List Value}{v:Value}(ht:P.underlying t=some (.array len e))(hag:∀w,(isAgg e).run P w=.ok false w)(hsz:∀w,(sizeOf e).run P w=.ok 1 w)(hx:ev n f x=.agg cs.toArray)(hy:ev n f y=.int k i)(hi:0<=i∧i<len)
 (hv:cs[i.toNat]? =some v)(h:O P n ops rest N Z (upd f d v) w):
 O P n ops (ZO d (.index t x y) tr pos after::rest) N Z f w:=
 O.val rfl rfl (by
  have h2:(Instr.index t (.agg cs.toArray) (.int k i)).run P w=.ok v w:=by
   unfold Instr.index;rw[Sem.run_bind];show Result.andThen (Result.ok (k,i) w) _=_;rw[Result.andThen_ok,Sem.run_bind,run_underlying ht,Result.andThen_ok]
   simp[hi.1,hi.2,hsz,part,hag,hv]
  have h3:execOp (ev n f) (ZO d (.index t x y) tr pos after)=(do pure (.value (<-Instr.index t (ev n f x) (ev n f y)))):=rfl;rw[h3,Sem.run_bind,hx,hy,h2]
  rfl) h
end
theorem Wr.lst {ty te:TypeId}{w:World}{bw g:Nat}{xs ys:List UInt8}(h:Wr ty te w bw g xs)(e:xs=ys):Wr ty te w bw g ys:=e ▸ h
end Go.Pn
end
section
namespace Go.Pn
open Go.RowKit
def OG {α:Type}(G:Flat α)(ty:TypeId)(w:World)(v:Value)(g:Nat)(xs:List α):Prop:=OwnF G ty 0 w v xs∧(∀k,bk v k->k=g)∧g<w.heap.size
section
variable {α:Type}{G:Flat α}{ty:TypeId}{w w':World}{v:Value}{g B:Nat}{xs ys:List α}
theorem OG.kM {M:Nat->Prop}(h:OG G ty w v g xs)(e:Ext M w w')(hM:∀k,k=g->¬M k):OG G ty w' v g xs:=⟨h.1.kM e λk hk=>hM k (h.2.1 k hk),h.2.1,e.lt h.2.2⟩
theorem OG.keepA {M:Nat->Prop}(h:OG G ty w v g xs)(e:Ext M w w')(hM:∀k,k=g->¬M k:=by intro k hk h;first|(have q:=hF k hk;(try dsimp only at h);omega)|(have q:=hF2 k hk;(try dsimp only at h);omega)|(have q:=hFb k hk;(try dsimp only at h);omega)|((try dsimp only at hk);(try dsimp only at h);omega)):OG G ty w' v g xs:=OG.kM h e hM
theorem OG.L (h:OG G ty w v g xs)(e:Le w w'):OG G ty w' v g xs:=h.kM e λ_ _=>not_false
theorem OG.sl (h:OG G ty w v g xs):Sl G.enc w (λk=>k=g) v xs:=h.1.sl.weak h.2.1
theorem OG.bk (h:OG G ty w v g xs)(hne:0<xs.length):Go.Pn.bk v g:=by
 obtain ⟨g',cap,cs,rfl,_⟩:=h.1.block hne;obtain rfl:=h.2.1 g' rfl;exact rfl
end
section
variable
 {d:Nat}{x y:Operand}{t t' ty tr e:TypeId}{pos:String}{after:Array Edge}{α:Type}{G:Flat α}{F:Nat->Prop}
theorem O.appG {i:TypeInfo}{z v v2:Value}{xs ys:List α}{g:Nat}(ht:P.underlying t=some (.slice e))(hi:P.info? e=some i)(hz:i.zero=some z)(hsz:i.size=G.sz)(hzs:z.cells.size=G.sz)
 (hx:ev n f x=v)(hy:ev n f y=v2)(hown:OG G e w v g xs)(hv2:Sl G.enc w F v2 ys)(hb:(xs.length+ys.length)*i.bytes<=140737488355328)(hl:xs.length+ys.length<=maxLen)
 (h:∀v' g' w',OG G e w' v' g' (xs++ys)->(g'=g∨w.heap.size<=g')->Ext (bk v) w w'->(∀k,bk v' k->bk v k∨w.heap.size<=k)->O P n ops rest N Z (upd f d v') w'):
 O P n ops (ZO d (.call {callee:=.builtin .append,args:=[x,y].toArray,argTypes:=[t,t].toArray}) tr pos after::rest) N Z f w:=by
 refine O.appW ht hi hz hsz hzs hx hy hown.1 hv2 hb hl (Nat.zero_le _) λv' w' ho he hw=>?_
 by_cases hq:∃k,bk v' k
 ·obtain ⟨k,hk⟩:=hq
  have huniq:∀j,bk v' j->j=k:=by
   intro j hj;cases v' with
   |slice a n c=>
    cases a with
    |none=>exact hj.elim
    |some a=>simp only[bk] at hj hk;rw[hj,hk]
   |_=>exact hj.elim
  refine h v' k w' ⟨ho,huniq,(ho.bk_ge k hk).2⟩ ?_ he hw;rcases hw k hk with q|q
  ·exact .inl (hown.2.1 k q)
  ·exact .inr q
 ·exact h v' g w' ⟨ho,λk hk=>absurd ⟨k,hk⟩ hq,he.lt hown.2.2⟩ (.inl rfl) he hw
end
theorem OG.nil {α:Type}{G:Flat α}{ty:TypeId}{w:World}{g:Nat}(h:g<w.heap.size):OG G ty w (.slice none 0 0) g []:=⟨OwnF.nil _ _ _ _,λ_ h=>h.elim,h⟩
theorem At.raw {w:World}{F:Nat->Prop}{a:Addr}{z:ItemT}(h:At itemE w F a z):∃s,At itemF.enc w F a (z.1,s)∧Sl markF.enc w F (slv s) z.2:=by
 obtain ⟨b,off,cur,ty,fr,rfl,hF,hb,hs,v,hv,hm⟩:=h;obtain ⟨s,rfl⟩:=hm.slv;exact ⟨s,⟨b,off,cur,ty,fr,rfl,hF,hb,hs,hv⟩,hm⟩
end Go.Pn
end
section
namespace Go.Pn
section
theorem O.callZ {d k:Nat}{xs:List Operand}{vs:List Value}{ats:Array TypeId}{ty:TypeId}{pos:String}{after:Array Edge}{Post:Value->World->Prop}{Z':List PanicEntry->World->Prop}
 (hk:∀args w,(callFunc k args).run P w=.ok (.enter k args) w)(hxs:xs.map (ev n f)=vs)
 (hc:RetZ P k vs.toArray w Post Z')(hz:∀ch w',Z' ch w'->Z ch w')(h:∀v w',Post v w'->O P n ops rest N Z (upd f d v) w'):
 O P n ops (ZO d (.call {callee:=.value (.func k),args:=xs.toArray,argTypes:=ats}) ty pos after::rest) N Z f w:=by
 subst hxs;unfold O at h ⊢;refine wpList_plain rfl λK hK=>?_
 have hrun:(execOp (ev n f) (ZO d (.call {callee:=.value (.func k),args:=xs.toArray,argTypes:=ats}) ty pos after)).run P w=.ok (.enter k (xs.map (ev n f)).toArray) w:=by
  simp[execOp,resolve,Deferred.ofValue,invoke,ev,hk]
 simp only[Oper.wp,eval_Fr,hrun,Oper.upon_enter];refine Calls.mono hc ?_;intro e w' he;cases e with
 |returned v=>show K ((Fr n f).put (some d) v) w';rw[put_Fr];exact hK _ _ (h v w' he)
 |panicked ch=>exact ⟨rfl,hz ch w' he⟩
 |outgrown=>exact he.elim
theorem O.panics {dst:Option Nat}{x:Operand}{t:TypeId}{v:Value}{ty:TypeId}{pos:String}{after:Array Edge}(hx:ev n f x=.iface t v)(h:Z [{v:=.iface t v,recovered:=false}] w):
 O P n ops ({dst:=dst,op:=.panic x,type:=ty,pos:=pos,after:=after,guard:=.none}::rest) N Z f w:=by
 unfold O;refine wpList_plain rfl λK hK=>?_
 have hrun:(execOp (ev n f) {dst:=dst,op:=.panic x,type:=ty,pos:=pos,after:=after,guard:=.none}).run P w=.halt (.panic (.iface t v)) w:=by
  simp[execOp,hx,run_panic_iface]
 simp only[Oper.wp,eval_Fr,hrun,Oper.upon_panic];exact ⟨rfl,h⟩
end
section
variable
 {d:Nat}{x y:Operand}{t t' ty:TypeId}{pos:String}{after:Array Edge}{a b:Int}{k:IntKind}
theorem O.lssK (hx:ev n f x=.int k a)(hy:ev n f y=.int k b)(h:O P n ops rest N Z (upd f d (.bool (decide (a<b)))) w):
 O P n ops (ZO d (.binOp .lss t x y t') ty pos after::rest) N Z f w:=
 O.val rfl rfl (by simp[execOp,hx,hy,eqGuard,binOp,Op.intCmp]) h
end
end Go.Pn
end
section
namespace Go.Pn
def FrD (ds:List Deferred)(n:Nat)(f:Val):Act:={Fr n f with defers:=ds}
def more (ds:List Deferred)(a:Act):Act:={a with defers:=a.defers++ds}
theorem more_Fr (ds:List Deferred)(n:Nat)(f:Val):more ds (Fr n f)=FrD ds n f:=rfl
theorem more_put (ds:List Deferred)(a:Act)(o:Option Nat)(v:Value):(more ds a).put o v=more ds (a.put o v):=by cases o<;>rfl
theorem more_eval (ds:List Deferred)(a:Act):(more ds a).eval=a.eval:=by funext x;cases x<;>rfl
def Holds9 (ks:List Nat)(f0:Val)(a:Act):Prop:=∀t∈ks,a.tmps.getD t undef=f0 t
def ExD (ds:List Deferred)(ks:List Nat)(f0:Val)(n:Nat)(N:Val->World->Prop)(R:Val->World->Prop)(Z:List PanicEntry->World->Prop):Exit->Act->World->Prop
 |.normal,a,w=>∃f,a=FrD ds n f∧N f w
 |.ret,a,w=>∃f,a=FrD ds n f∧R f w
 |.panic ch,a,w=>a.defers=ds∧Holds9 ks f0 a∧Z ch w
 |_,_,_=>False
def CD (P:Program)(n:Nat)(ds:List Deferred)(ks:List Nat)(f0:Val)(c:Code)(N:Val->World->Prop)(R:Val->World->Prop)(Z:List PanicEntry->World->Prop)(f:Val)(w:World):Prop:=
 c.wp P (ExD ds ks f0 n N R Z) (FrD ds n f) w
section
variable {P:Program}{n:Nat}{ds:List Deferred}{ks:List Nat}{f0:Val}{N N':Val->World->Prop}{R:Val->World->Prop}{Z:List PanicEntry->World->Prop}{f:Val}{w:World}{a b c:Code}
theorem CD.seqK (h:∀K:Val->World->Prop,(∀f w,CD P n ds ks f0 b N R Z f w->K f w)->CD P n ds ks f0 a K R Z f w):CD P n ds ks f0 (.seq a b) N R Z f w:=by
 have h:=h _ (λ_ _ h=>h);refine wp_seq (wp_mono h ?_);intro e a w he;cases e with
 |normal=>obtain ⟨f,rfl,hb⟩:=he;exact hb
 |exit i=>exact he
 |goto l=>exact he
 |ret=>exact he
 |panic ch=>exact he
 |outgrown=>exact he
theorem CD.ret (h:R f w):CD P n ds ks f0 .ret N R Z f w:=wp_ret ⟨f,rfl,h⟩
def keepsB (ks:List Nat)(l:List Oper):Bool:=l.all λo=>match o.dst with
 |some d=> !ks.contains d
 |none=>true
theorem Holds9.put {a:Act}(h:Holds9 ks f0 a){o:Option Nat}{v:Value}(ho:∀d,o=some d->d∉ks):Holds9 ks f0 (a.put o v):=by
 intro t ht;cases o with
 |none=>exact h t ht
 |some d=>
  have hd:d≠t:=λq=>ho d rfl (q ▸ ht)
  rw[<-h t ht];simp only[Act.put,Array.getD_eq_getD_getElem?,Array.getElem?_setIfInBounds];rw[if_neg hd]
theorem keeps_cons {o:Oper}{l:List Oper}(h:keepsB ks (o::l)=true):(∀d,o.dst=some d->d∉ks)∧keepsB ks l=true:=by
 unfold keepsB at h ⊢;simp only[List.all_cons,Bool.and_eq_true] at h;refine ⟨λd hd=>?_,h.2⟩;have h1:=h.1;rw[hd] at h1
 simpa using h1
theorem list_more {ops:Array Oper}:∀(l:List Oper) (a:Act) (w:World),keepsB ks l=true->Holds9 ks f0 a->(a.defers=[])->wpList P ops (Ex n N (λ_ _ _=>False) (λ_ _=>False) Z) l a w->
 wpList P ops (ExD ds ks f0 n N R Z) l (more ds a) w:=by
 have key:∀(l:List Oper) (a:Act) (w:World),keepsB ks l=true->Holds9 ks f0 a->wpList P ops (Ex n N (λ_ _ _=>False) (λ_ _=>False) Z) l a w->
  wpList P ops (ExD ds ks f0 n N R Z) l (more ds a) w:=by
  intro l
  induction l with
  |nil=>
   intro a w _ _ h;obtain ⟨f,rfl,hN⟩:=h;exact ⟨f,rfl,hN⟩
  |cons o l ih=>
   intro a w hk hh h;obtain ⟨hk1,hk2⟩:=keeps_cons hk;simp only[wpList] at h ⊢;rw[more_put];have ht:(more ds a).tmps=a.tmps:=rfl;rw[ht]
   split at h
   ·rename_i hw
    rw[if_pos hw];rcases h with h|⟨_,a0,w0,h0⟩
    ·left
     simp only[Oper.wp,more_eval] at h ⊢
     generalize (execOp a.eval o).run P w=r at h ⊢
     cases r with
     |ok nx w'=>
      cases nx with
      |value v=>have:=ih _ _ hk2 (hh.put hk1) h;rw[<-more_put] at this;exact this
      |skip=>have:=ih _ _ hk2 (hh.put hk1) h;rw[<-more_put] at this;exact this
      |defer d=>
       have:=ih _ _ hk2 (Holds9.put (a:={a with defers:=d::a.defers}) hh hk1) h;rw[<-more_put] at this;exact this
      |enter k args=>
       refine Calls.mono h ?_;intro e w'' he;cases e with
       |returned v=>have:=ih _ _ hk2 (hh.put hk1) he;rw[<-more_put] at this;exact this
       |panicked ch=>exact ⟨by show a.defers++ds=ds;rw[he.1];rfl,hh,he.2⟩
       |outgrown=>obtain ⟨a0,w0,h0⟩:=he;exact h0.elim
      |row r args=>exact Rows.mono h λv w'' hv=>by have:=ih _ _ hk2 (hh.put hk1) hv;rw[<-more_put] at this;exact this
      |_=>exact h.elim
     |halt q w'=>
      cases q with
      |panic v=>exact ⟨by show a.defers++ds=ds;rw[h.1];rfl,hh,h.2⟩
      |_=>exact h.elim
    ·exact h0.elim
   ·rename_i hw
    rw[if_neg hw];exact ih _ _ hk2 (hh.put hk1) h
 exact λl a w hk hh _ h=>key l a w hk hh h
theorem CD.region {id:Nat}{l:List Oper}(hk:keepsB ks l=true)(hf:ks.map (λt=>ev n f (.tmp t))=ks.map f0)(h:O P n l l N Z f w):CD P n ds ks f0 (.region id l.toArray false) N R Z f w:=by
 refine wp_region_lit ?_;rw[<-more_Fr];exact list_more l _ _ hk (λt ht=>(getD_Fr n f t).trans (List.map_inj_left.1 hf t ht)) rfl h
theorem any_more {ops:Array Oper}{S:World->Prop}:∀(fuel:Nat) (listed:Array Bool) (a:Act) (w:World),wpAnyH P .any ops (Q0 n N λ_ _=>False) S fuel listed a w->
 wpAnyH P .any ops (ExD ds ks f0 n N R Z) S fuel listed (more ds a) w
 |0,_,a,w,h=>by
  obtain ⟨h0,f,rfl,hN⟩:=h;exact ⟨h0,f,rfl,hN⟩
 |fuel+1,listed,a,w,h=>by
  refine ⟨λh0=>?_,λi hi=>?_⟩
  ·obtain ⟨f,rfl,hN⟩:=h.1 h0
   exact ⟨f,rfl,hN⟩
  ·have h2:=h.2 i hi
   unfold wpOp at h2 ⊢
   generalize ops[i]? =q at h2 ⊢
   cases q with
   |none=>exact ⟨h2.1,any_more fuel _ a w h2.2⟩
   |some o=>
    simp only at h2 ⊢;have ht:(more ds a).tmps=a.tmps:=rfl;rw[ht]
    split at h2
    ·rename_i hw
     rw[if_pos hw];rcases h2 with h2|⟨_,a0,w0,h0⟩
     ·left
      simp only[Oper.wp,more_eval] at h2 ⊢
      generalize (execOp a.eval o).run P w=r at h2 ⊢
      cases r with
      |ok nx w'=>
       cases nx with
       |value v=>refine ⟨h2.1,?_⟩;rw[more_put];exact any_more fuel _ _ w' h2.2
       |skip=>refine ⟨h2.1,?_⟩;rw[more_put];exact any_more fuel _ _ w' h2.2
       |defer d=>refine ⟨h2.1,?_⟩;have:=any_more fuel _ ({a with defers:=d::a.defers}.put o.dst undef) w' h2.2;rw[<-more_put] at this;exact this
       |enter k args=>
        refine Calls.mono h2 ?_;intro e w'' he;cases e with
        |returned v=>refine ⟨he.1,?_⟩;rw[more_put];exact any_more fuel _ _ w'' he.2
        |panicked ch=>exact he.2.elim
        |outgrown=>obtain ⟨a0,w0,h0⟩:=he;exact h0.elim
       |row r args=>exact Rows.mono h2 λv w'' hv=>by refine ⟨hv.1,?_⟩;rw[more_put];exact any_more fuel _ _ w'' hv.2
       |_=>exact h2.elim
      |halt q w'=>
       cases q with
       |panic v=>exact h2.2.elim
       |_=>exact h2.elim
     ·exact h0.elim
    ·rename_i hw
     rw[if_neg hw];refine ⟨h2.1,?_⟩;rw[more_put];exact any_more fuel _ _ w h2.2
theorem CD.drawB {wB:World}{id:Nat}{l:List Oper}(hm:P.follows .mixedOrders=true)(h:∀w1,Le w w1->D P n l (Array.replicate l.toArray.size false) N (λ_ _=>False) wB l.toArray.size f w1):CD P n ds ks f0 (.region id l.toArray true) N R Z f w:=by
 have h1:=h {w with drawn:=w.drawn+1} ⟨rfl,rfl,rfl,Nat.le_refl _,λ_ _ _=>rfl⟩;unfold CD;rw[<-more_Fr];exact wp_region_held (S:=λw'=>Le wB w') hm (any_more _ _ _ _ h1)
end
section
variable {P:Program}{n:Nat}
theorem wp_defer {g:Nat}{x:Operand}{v:Value}{id:Nat}{dst:Option Nat}{ats:Array TypeId}{ty:TypeId}{pos:String}{after:Array Edge}{f:Val}{w:World}{Q:Exit->Act->World->Prop}
 (hd:dst=none)(hx:ev n f x=v)(h:Q .normal (FrD [{target:=.fn (.func g) #[],args:=#[v]}] n f) w):
 (Code.region id [{dst:=dst,op:=Op.defer {callee:=.value (.func g),args:=[x].toArray,argTypes:=ats},type:=ty,pos:=pos,after:=after,guard:=.none}].toArray false).wp P Q (Fr n f) w:=by
 subst hd;subst hx;refine wp_region_lit ?_;simp only[wpList,Region.wanted,if_true]
 left
 have hrun:(execOp (ev n f) {dst:=none,op:=Op.defer {callee:=.value (.func g),args:=[x].toArray,argTypes:=ats},type:=ty,pos:=pos,after:=after,guard:=.none}).run P w=.ok (.defer {target:=.fn (.func g) #[],args:=#[ev n f x]}) w:=by
  simp[execOp,resolve,Deferred.ofValue,ev]
 simp only[Oper.wp,eval_Fr,hrun,Oper.upon_defer];exact h
theorem enterD {k g:Nat}{fn:Func}{r0 rest:Code}{x:Operand}{id:Nat}{dst:Option Nat}{ats:Array TypeId}{ty:TypeId}{pos:String}{after:Array Edge}{args:List Value}{w:World}{Post:Value->World->Prop}
 {ks:List Nat}
 (hf:P.funcs[k]? =some fn)
 (hb:fn.body=some (.seq r0 (.seq (.region id [{dst:=dst,op:=Op.defer {callee:=.value (.func g),args:=[x].toArray,argTypes:=ats},type:=ty,pos:=pos,after:=after,guard:=.none}].toArray false) rest)))
 (hn:fn.ntmps=n)(ha:args.length<=n)(hd:dst=none)
 (h:C P n r0 (λf1 w1=>∃(v:Value) (Z:List PanicEntry->World->Prop),ev n f1 x=v∧CD P n [{target:=.fn (.func g) #[],args:=#[v]}] ks (λt=>ev n f1 (.tmp t)) rest (λ_ _=>False)
   (λf2 w2=>Leaves P fn (Fr n f2).tmps (λe w'=>match e with|.returned v=>Post v w'|_=>False) [{target:=.fn (.func g) #[],args:=#[v]}] .returning w2)
   Z f1 w1∧∀a ch w',Holds9 ks (λt=>ev n f1 (.tmp t)) a->Z ch w'->Leaves P fn a.tmps (λe w'=>match e with|.returned v=>Post v w'|_=>False) [{target:=.fn (.func g) #[],args:=#[v]}] (.panicking ch) w')
   (λ_ _ _=>False) (λ_ _=>False) (λ_ _=>False) (init args) w):Ret P k args.toArray w Post:=by
 subst hn;refine calls_of_wp_defers hf hb ?_;rw[Fr_init _ _ ha];refine wp_seq (wp_mono h ?_);intro e a w he;cases e with
 |normal=>
  obtain ⟨f1,rfl,v,Z,hx,hc,hz⟩:=he;refine wp_seq (wp_defer hd hx (wp_mono hc ?_));intro e a w he;cases e with
  |normal=>obtain ⟨_,_,h⟩:=he;exact h.elim
  |ret=>obtain ⟨f2,rfl,h⟩:=he;exact h
  |panic ch=>obtain ⟨hd,hh,hzz⟩:=he;show Leaves _ _ _ _ a.defers _ _;rw[hd];exact hz a ch w hh hzz
  |exit i=>exact he.elim
  |goto l=>exact he.elim
  |outgrown=>exact he.elim
 |exit i=>obtain ⟨_,_,h⟩:=he;exact h.elim
 |goto l=>exact he.elim
 |ret=>obtain ⟨_,_,h⟩:=he;exact h.elim
 |panic ch=>exact he.2.elim
 |outgrown=>exact he.elim
theorem leaves1 {fn:Func}{tmps:Array Value}{g:Nat}{v:Value}{u:FrameMode}{w:World}{Post:Value->World->Prop}{S:World->Prop}(hu:u≠.run)
 (hk:∀args w,(callFunc g args).run P w=.ok (.enter g args) w)
 (hc:CallsD P g #[v] u w λe u' w'=>(∃q,e=.returned q)∧settle u'=.returning∧S w')
 (h:∀w',S w'->∃r,(results fn tmps).run P w'=.ok r w'∧Post r w'):
 Leaves P fn tmps (λe w'=>match e with|.returned v=>Post v w'|_=>False) [{target:=.fn (.func g) #[],args:=#[v]}] u w:=by
 refine leaves_cons hu (f:=g) (args:=#[v]) (by simp[invoke,hk]) ?_;refine hc.mono ?_;rintro e u' w' ⟨⟨q,rfl⟩,hs,hS⟩;simp only[hs];exact h w' hS
end
end Go.Pn
namespace Go.Pn
section
variable {P:Program}{fn:Func}{tmps:Array Value}{w:World}{t u q s b b2:Nat}{ty ty' ty2 ty2':TypeId}{cs:List Value}{x y:Value}
theorem load_agg (hag:∀w,(isAgg ty).run P w=.ok true w)(hs:∀w,(sizeOf ty).run P w=.ok s w)(ho:Own w b ty' cs)(hl:cs.length=s):(loadVar ty ⟨b,0,Option.none⟩).run P w=.ok (.agg cs.toArray) w:=by
 have hc:(loadCells ⟨b,0,Option.none⟩ s).run P w=.ok cs.toArray w:=by
  have:=run_loadCells_list (P:=P) w ⟨b,0,Option.none⟩ cs λj v hj=>by rw[Addr.add_none,Nat.zero_add];exact ho.cell hj
  rwa [hl] at this
 simp[loadVar,hag,hs,hc]
theorem load_one (hag:∀w,(isAgg ty).run P w=.ok false w)(ho:Own w b ty' [x]):(loadVar ty ⟨b,0,Option.none⟩).run P w=.ok x w:=by
 have hc:w.cell? ⟨b,0,Option.none⟩=some x:=ho.cell rfl
 simp[loadVar,hag,hc]
theorem res_ctc (hr:fn.results=#[.cell t ty,.tmp u,.cell q ty2])(h1:tmps.getD t undef=.pointer (some ⟨b,0,Option.none⟩))(h2:tmps.getD u undef=y)(h3:tmps.getD q undef=.pointer (some ⟨b2,0,Option.none⟩))
 (hag:∀w,(isAgg ty).run P w=.ok true w)(hs:∀w,(sizeOf ty).run P w=.ok s w)(ho:Own w b ty' cs)(hl:cs.length=s)(hag2:∀w,(isAgg ty2).run P w=.ok false w)(ho2:Own w b2 ty2' [x]):
 (results fn tmps).run P w=.ok (.tuple #[.agg cs.toArray,y,x]) w:=by
 simp[results,hr,-Array.getD_eq_getD_getElem?,h1,h2,h3,asAddr,load_agg hag hs ho hl,load_one hag2 ho2]
end
end Go.Pn
end
section
namespace Go.Pn.Bt
open Go Go.Pn Go.Pn.Jn
abbrev Cart:=Cn.Cart
abbrev Ent:=List UInt8×Cn.Cart
instance decEnt:DecidableEq Ent:=inferInstanceAs (DecidableEq (List UInt8×Cn.Cart))
def keyB (c:UInt8):Bool:=(decide (97<=c.toNat)&&decide (c.toNat<=122))||((decide (48<=c.toNat)&&decide (c.toNat<=57))||(decide (c.toNat=45)||(decide (c.toNat=95)||(decide (c.toNat=46)||decide (c.toNat=47)))))
def okKey (s:List UInt8):Bool:=s.all keyB&&decide (1<=s.length∧s.length<=64)
def okE (x:Ent):Bool:=okKey x.1&&Cn.valid x.2
def rises (l:List Ent):Bool:=Cn.adj (λa b=>Op.bytesLess a.1 b.1) l
def ordered (l:List Ent):Bool:=l.all okE&&rises l
def valid (l:List Ent):Bool:=decide (l.length<=1024)&&ordered l
structure Ord (l:List Ent):Prop where
 ok:∀x∈l,okKey x.1=true∧GoodC x.2
 up:l.Pairwise (λa b=>BL a.1 b.1)
theorem rises_iff {l:List Ent}:rises l=true↔l.Pairwise (λa b=>BL a.1 b.1):=by
 unfold rises
 constructor
 ·have:∀l:List Ent,Cn.adj (λa b=>Op.bytesLess a.1 b.1) l=true->l.Pairwise (λa b=>BL a.1 b.1):=by
   intro l
   induction l with
   |nil=>intro _;exact List.Pairwise.nil
   |cons a l ih=>
    intro h;cases l with
    |nil=>exact List.pairwise_singleton _ _
    |cons b l=>
     unfold Cn.adj at h;rw[Bool.and_eq_true] at h;have ih:=ih h.2;refine List.pairwise_cons.2 ⟨λz hz=>?_,ih⟩;rcases List.mem_cons.1 hz with e|hz
     ·rw [e];exact h.1
     ·exact bl_trans (a:=a.1) h.1 ((List.pairwise_cons.1 ih).1 z hz)
  exact this l
 ·intro h
  exact Cn.adj_yes λi hi=>List.pairwise_iff_getElem.1 h i (i+1) (by omega) hi (by omega)
theorem ord_iff {l:List Ent}:ordered l=true↔Ord l:=by
 unfold ordered;rw[Bool.and_eq_true,rises_iff,List.all_eq_true]
 constructor
 ·rintro ⟨h1,h2⟩
  refine ⟨λx hx=>?_,h2⟩;have:=h1 x hx;unfold okE at this;rw[Bool.and_eq_true] at this;exact ⟨this.1,good_iff.1 this.2⟩
 ·intro h
  refine ⟨λx hx=>?_,h.up⟩;unfold okE;rw[Bool.and_eq_true];exact ⟨(h.ok x hx).1,good_iff.2 (h.ok x hx).2⟩
theorem Ord.nil:Ord []:=⟨by simp,List.Pairwise.nil⟩
theorem Ord.tail {a:Ent}{l:List Ent}(h:Ord (a::l)):Ord l:=⟨λx hx=>h.ok x (.tail _ hx),(List.pairwise_cons.1 h.up).2⟩
theorem Ord.head {a:Ent}{l:List Ent}(h:Ord (a::l)):∀x∈l,BL a.1 x.1:=(List.pairwise_cons.1 h.up).1
theorem Ord.part {l:List Ent}(h:Ord l){l':List Ent}(hs:l'.Sublist l):Ord l':=⟨λx hx=>h.ok x (hs.subset hx),h.up.sublist hs⟩
def get (l:List Ent)(k:Name):Option Cart:=(l.find? λx=>decide (x.1=k)).map (·.2)
theorem get_nil (k:Name):get [] k=none:=rfl
theorem get_cons (a:Ent)(l:List Ent)(k:Name):get (a::l) k=if a.1=k then some a.2 else get l k:=by
 unfold get;rw[List.find?_cons]
 by_cases h:a.1=k
 ·rw [if_pos h,decide_eq_true h];rfl
 ·rw [if_neg h,decide_eq_false h]
theorem get_none {l:List Ent}{k:Name}(h:∀x∈l,x.1≠k):get l k=none:=by
 unfold get;rw[List.find?_eq_none.2 λx hx=>by simpa using h x hx]
 rfl
theorem get_mem {l:List Ent}(h:Ord l){x:Ent}(hx:x∈l):get l x.1=some x.2:=by
 induction l with
 |nil=>cases hx
 |cons a l ih=>
  rw[get_cons];rcases List.mem_cons.1 hx with e|hx
  ·rw [e,if_pos rfl]
  ·have:=h.head x hx
   rw[if_neg λq=>by rw[q] at this;exact bl_irrefl _ this];exact ih h.tail hx
theorem mem_get {l:List Ent}{k:Name}{c:Cart}(h:get l k=some c):(k,c)∈l:=by
 unfold get at h;cases hf:l.find? (λx=>decide (x.1=k)) with
 |none=>rw[hf] at h;cases h
 |some x=>
  rw[hf] at h;have h1:=List.mem_of_find?_eq_some hf;have h2:=List.find?_some hf;simp only[decide_eq_true_eq] at h2;have h3:x.2=c:=by simpa using h
  rw[<-h2,<-h3];exact h1
theorem get_less {l:List Ent}{k:Name}(h:∀x∈l,BL k x.1):get l k=none:=get_none λx hx q=>by have:=h x hx;rw[q] at this;exact bl_irrefl _ this
def mg:Nat->List Ent->List Ent->List Ent
 |0,_,_=>[]
 |_+1,[],[]=>[]
 |n+1,a::x,[]=>a::mg n x []
 |n+1,[],b::y=>b::mg n [] y
 |n+1,a::x,b::y=>
  if BL a.1 b.1 then a::mg n x (b::y)
  else if BL b.1 a.1 then b::mg n (a::x) y
  else (a.1,join a.2 b.2)::mg n x y
def merge (x y:List Ent):List Ent:=mg (x.length+y.length) x y
theorem mg_fuel:∀(n m:Nat) (x y:List Ent),x.length+y.length<=n->x.length+y.length<=m->mg n x y=mg m x y:=by
 intro n
 induction n with
 |zero=>
  intro m x y h _;have hx:x=[]:=List.eq_nil_of_length_eq_zero (by omega);have hy:y=[]:=List.eq_nil_of_length_eq_zero (by omega);subst hx hy;cases m<;>simp[mg]
 |succ n ih=>
  intro m x y h k;cases m with
  |zero=>
   have hx:x=[]:=List.eq_nil_of_length_eq_zero (by omega);have hy:y=[]:=List.eq_nil_of_length_eq_zero (by omega);subst hx hy
   simp[mg]
  |succ m=>
   cases x with
   |nil=>
    cases y with
    |nil=>simp[mg]
    |cons b y=>rw[mg,mg,ih m [] y (by simp at h ⊢;omega) (by simp at k ⊢;omega)]
   |cons a x=>
    cases y with
    |nil=>rw[mg,mg,ih m x [] (by simp at h ⊢;omega) (by simp at k ⊢;omega)]
    |cons b y=>
     simp only[List.length_cons] at h k;rw[mg,mg,ih m x (b::y) (by simp;omega) (by simp;omega),ih m (a::x) y (by simp;omega) (by simp;omega),ih m x y (by omega) (by omega)]
theorem merge_nil:merge [] []=[]:=by simp[merge,mg]
theorem merge_first {a:Ent}{x y:List Ent}(h:y=[]∨∃b y',y=b::y'∧BL a.1 b.1):merge (a::x) y=a::merge x y:=by
 unfold merge;rcases h with rfl|⟨b,y',rfl,h⟩
 ·simp [mg]
 ·have e:(a::x).length+(b::y').length=(x.length+(b::y').length)+1:=by simp;omega
  rw[e,mg,if_pos h]
theorem merge_second {b:Ent}{x y:List Ent}(h:x=[]∨∃a x',x=a::x'∧BL b.1 a.1):merge x (b::y)=b::merge x y:=by
 unfold merge;rcases h with rfl|⟨a,x',rfl,h⟩
 ·simp [mg]
 ·have e:(a::x').length+(b::y).length=((a::x').length+y.length)+1:=by simp;omega
  rw[e,mg,if_neg λq=>bl_irrefl _ (bl_trans h q),if_pos h]
theorem merge_both {a b:Ent}{x y:List Ent}(h1:¬BL a.1 b.1)(h2:¬BL b.1 a.1):merge (a::x) (b::y)=(a.1,join a.2 b.2)::merge x y:=by
 unfold merge;have e:(a::x).length+(b::y).length=(x.length+y.length+1)+1:=by simp;omega
 rw[e,mg,if_neg h1,if_neg h2,mg_fuel (x.length+y.length+1) (x.length+y.length) x y (by omega) (by omega)]
def oj:Option Cart->Option Cart->Option Cart
 |none,y=>y
 |x,none=>x
 |some a,some b=>some (join a b)
theorem merge_get {a b:List Ent}(ha:Ord a)(hb:Ord b)(k:Name):get (merge a b) k=oj (get a k) (get b k):=by
 have key:∀(n:Nat) (a b:List Ent),a.length+b.length<=n->Ord a->Ord b->get (merge a b) k=oj (get a k) (get b k):=by
  intro n
  induction n with
  |zero=>
   intro a b h _ _;have hx:a=[]:=List.eq_nil_of_length_eq_zero (by omega);have hy:b=[]:=List.eq_nil_of_length_eq_zero (by omega);subst hx hy;rw[merge_nil]
   rfl
  |succ n ih=>
   intro a b h ha hb;have first:∀(p:Ent) (x y:List Ent),p.1≠k->(get (p::x) k=get x k):=λp x _ q=>by rw[get_cons,if_neg q]
   cases a with
   |nil=>
    cases b with
    |nil=>rw[merge_nil];rfl
    |cons q y=>
     rw[merge_second (.inl rfl),get_cons,get_cons]
     split
     ·rfl
     ·exact ih [] y (by simp at h ⊢;omega) ha hb.tail
   |cons p x=>
    cases b with
    |nil=>
     rw[merge_first (.inl rfl),get_cons,get_cons]
     split
     ·rfl
     ·exact ih x [] (by simp at h ⊢;omega) ha.tail hb
    |cons q y=>
     simp only[List.length_cons] at h;rcases bl_total p.1 q.1 with c|c|c
     ·rw [merge_first (.inr ⟨q,y,rfl,c⟩),get_cons,get_cons p]
      split
      ·rename_i e
       have:get (q::y) k=none:=get_less λz hz=>by
        rw[<-e];rcases List.mem_cons.1 hz with g|hz
        ·rw [g];exact c
        ·exact bl_trans c (hb.head z hz)
       rw[this]
       rfl
      ·exact ih x (q::y) (by simp;omega) ha.tail hb
     ·have c1:¬BL p.1 q.1:=by rw[c];exact bl_irrefl _
      have c2:¬BL q.1 p.1:=by rw[c];exact bl_irrefl _
      rw[merge_both c1 c2,get_cons,get_cons,get_cons,<-c]
      split
      ·rfl
      ·exact ih x y (by omega) ha.tail hb.tail
     ·rw [merge_second (.inr ⟨p,x,rfl,c⟩),get_cons,get_cons q]
      split
      ·rename_i e
       have:get (p::x) k=none:=get_less λz hz=>by
        rw[<-e];rcases List.mem_cons.1 hz with g|hz
        ·rw [g];exact c
        ·exact bl_trans c (ha.head z hz)
       rw[this]
       rfl
      ·exact ih (p::x) y (by simp;omega) ha hb.tail
 exact key _ a b (Nat.le_refl _) ha hb
theorem merge_keys:∀(n:Nat) (a b:List Ent),a.length+b.length<=n->∀x∈mg n a b,(∃y∈a,y.1=x.1)∨∃y∈b,y.1=x.1:=by
 intro n
 induction n with
 |zero=>intro a b _ x hx;cases hx
 |succ n ih=>
  intro a b h x hx;cases a with
  |nil=>
   cases b with
   |nil=>cases hx
   |cons q y=>
    rw[mg] at hx;rcases List.mem_cons.1 hx with e|hx
    ·exact .inr ⟨q,.head _,by rw[e]⟩
    ·rcases ih [] y (by simp at h ⊢;omega) x hx with ⟨z,hz,e⟩|⟨z,hz,e⟩
     ·cases hz
     ·exact .inr ⟨z,.tail _ hz,e⟩
  |cons p x'=>
   cases b with
   |nil=>
    rw[mg] at hx;rcases List.mem_cons.1 hx with e|hx
    ·exact .inl ⟨p,.head _,by rw[e]⟩
    ·rcases ih x' [] (by simp at h ⊢;omega) x hx with ⟨z,hz,e⟩|⟨z,hz,e⟩
     ·exact .inl ⟨z,.tail _ hz,e⟩
     ·cases hz
   |cons q y=>
    simp only[List.length_cons] at h;rw[mg] at hx
    split at hx
    ·rcases List.mem_cons.1 hx with e|hx
     ·exact .inl ⟨p,.head _,by rw[e]⟩
     ·rcases ih x' (q::y) (by simp;omega) x hx with ⟨z,hz,e⟩|h2
      ·exact .inl ⟨z,.tail _ hz,e⟩
      ·exact .inr h2
    ·split at hx
     ·rcases List.mem_cons.1 hx with e|hx
      ·exact .inr ⟨q,.head _,by rw[e]⟩
      ·rcases ih (p::x') y (by simp;omega) x hx with h2|⟨z,hz,e⟩
       ·exact .inl h2
       ·exact .inr ⟨z,.tail _ hz,e⟩
     ·rcases List.mem_cons.1 hx with e|hx
      ·exact .inl ⟨p,.head _,by rw[e]⟩
      ·rcases ih x' y (by omega) x hx with ⟨z,hz,e⟩|⟨z,hz,e⟩
       ·exact .inl ⟨z,.tail _ hz,e⟩
       ·exact .inr ⟨z,.tail _ hz,e⟩
theorem mg_ord:∀(n:Nat) (a b:List Ent),a.length+b.length<=n->Ord a->Ord b->Ord (mg n a b):=by
 intro n
 induction n with
 |zero=>intro a b _ _ _;exact Ord.nil
 |succ n ih=>
  intro a b h ha hb;have cons:∀{p:Ent} {l:List Ent},okKey p.1=true∧GoodC p.2->Ord l->(∀x∈l,BL p.1 x.1)->Ord (p::l):=λhp hl hx=>
   ⟨λx hm=>(List.mem_cons.1 hm).elim (λe=>e ▸ hp) (hl.ok x),List.pairwise_cons.2 ⟨hx,hl.up⟩⟩
  cases a with
  |nil=>
   cases b with
   |nil=>exact Ord.nil
   |cons q y=>
    rw[mg];refine cons (hb.ok q (.head _)) (ih [] y (by simp at h ⊢;omega) ha hb.tail) λx hx=>?_
    rcases merge_keys n [] y (by simp at h ⊢;omega) x hx with ⟨z,hz,e⟩|⟨z,hz,e⟩
    ·cases hz
    ·rw [<-e];exact hb.head z hz
  |cons p x'=>
   cases b with
   |nil=>
    rw[mg];refine cons (ha.ok p (.head _)) (ih x' [] (by simp at h ⊢;omega) ha.tail hb) λx hx=>?_
    rcases merge_keys n x' [] (by simp at h ⊢;omega) x hx with ⟨z,hz,e⟩|⟨z,hz,e⟩
    ·rw [<-e];exact ha.head z hz
    ·cases hz
   |cons q y=>
    simp only[List.length_cons] at h;rw[mg]
    split
    ·rename_i c
     refine cons (ha.ok p (.head _)) (ih x' (q::y) (by simp;omega) ha.tail hb) λx hx=>?_
     rcases merge_keys n x' (q::y) (by simp;omega) x hx with ⟨z,hz,e⟩|⟨z,hz,e⟩
     ·rw [<-e];exact ha.head z hz
     ·rw [<-e]
      rcases List.mem_cons.1 hz with g|hz
      ·rw [g];exact c
      ·exact bl_trans c (hb.head z hz)
    ·rename_i c1
     split
     ·rename_i c
      refine cons (hb.ok q (.head _)) (ih (p::x') y (by simp;omega) ha hb.tail) λx hx=>?_
      rcases merge_keys n (p::x') y (by simp;omega) x hx with ⟨z,hz,e⟩|⟨z,hz,e⟩
      ·rw [<-e]
       rcases List.mem_cons.1 hz with g|hz
       ·rw [g];exact c
       ·exact bl_trans c (ha.head z hz)
      ·rw [<-e];exact hb.head z hz
     ·rename_i c2
      have c:p.1=q.1:=by
       rcases bl_total p.1 q.1 with g|g|g
       ·exact absurd g c1
       ·exact g
       ·exact absurd g c2
      refine cons (p:=(p.1,join p.2 q.2)) ⟨(ha.ok p (.head _)).1,join_good (ha.ok p (.head _)).2 (hb.ok q (.head _)).2⟩ (ih x' y (by omega) ha.tail hb.tail) λx hx=>?_
      show BL p.1 x.1;rcases merge_keys n x' y (by omega) x hx with ⟨z,hz,e⟩|⟨z,hz,e⟩
      ·rw [<-e];exact ha.head z hz
      ·rw [<-e,c];exact hb.head z hz
theorem merge_ord {a b:List Ent}(ha:Ord a)(hb:Ord b):Ord (merge a b):=mg_ord _ a b (Nat.le_refl _) ha hb
theorem merge_len (a b:List Ent):(merge a b).length<=a.length+b.length:=by
 have key:∀(n:Nat) (a b:List Ent),(mg n a b).length<=a.length+b.length:=by
  intro n
  induction n with
  |zero=>intro a b;exact Nat.zero_le _
  |succ n ih=>
   intro a b;cases a with
   |nil=>
    cases b with
    |nil=>exact Nat.zero_le _
    |cons q y=>rw[mg];have:=ih [] y;simp at this ⊢;omega
   |cons p x=>
    cases b with
    |nil=>rw[mg];have:=ih x [];simp at this ⊢;omega
    |cons q y=>
     rw[mg]
     split
     ·have:=ih x (q::y);simp at this ⊢;omega
     ·split
      ·have:=ih (p::x) y;simp at this ⊢;omega
      ·have:=ih x y;simp at this ⊢;omega
 exact key _ a b
end Go.Pn.Bt
end
section
namespace Go.Pn.Cn
open Go Go.Pn
def nil0:Cart:=(([],[]),[])
end Go.Pn.Cn
end
section
namespace Go.Pn.Cn
open Go Go.Pn
def Seg (s l:List UInt8)(k k':Nat):Prop:=l.drop k=s++l.drop k'∧k'=k+s.length∧k'<=l.length
def No {α:Type}(Q:α->Prop)(f:α->List UInt8)(l:List UInt8)(k:Nat):Prop:=∀x r,Q x->l.drop k≠f x++r
section
variable {α β:Type}{Q:α->Prop}{Q':β->Prop}{f:α->List UInt8}{g:β->List UInt8}{s t l r:List UInt8}{k k1 k2:Nat}{x y:α}
theorem Seg.nil (h:k<=l.length):Seg [] l k k:=⟨rfl,rfl,h⟩
theorem Seg.app (h:Seg s l k k1)(h':Seg t l k1 k2):Seg (s++t) l k k2:=
 ⟨by rw[List.append_assoc,<-h'.1,h.1],by rw[List.length_append,h'.2.1,h.2.1];omega,h'.2.2⟩
theorem Seg.cast (h:Seg s l k k1)(e:s=t):Seg t l k k1:=e ▸ h
theorem Seg.of (h:l.drop k=s++r)(hk:k<=l.length):Seg s l k (k+s.length):=by
 have e:l.drop (k+s.length)=r:=by rw[<-List.drop_drop,h,List.drop_left]
 refine ⟨by rw[e,h],rfl,?_⟩;have:=congrArg List.length h;simp only[List.length_drop,List.length_append] at this
 omega
theorem Seg.take (h:s=(l.drop k).take s.length)(hk:k+s.length<=l.length):Seg s l k (k+s.length):=
 Seg.of (r:=(l.drop k).drop s.length) (by rw[show s++(l.drop k).drop s.length=(l.drop k).take s.length++(l.drop k).drop s.length by rw[<-h],List.take_append_drop]) (by omega)
theorem Seg.uniq (h:Seg (f x) l k k1)(hp:Pre Q f)(hx:Q x)(hy:Q y)(e:l.drop k=f y++r):x=y∧l.drop k1=r:=
 hp _ _ _ _ hx hy (h.1.symm.trans e)
theorem No.mono {Q2:α->Prop}(h:No Q f l k)(hq:∀x,Q2 x->Q x):No Q2 f l k:=λx r hx=>h x r (hq x hx)
theorem No.fst (h:No Q f l k):No (λx:α×β=>Q x.1∧Q' x.2) (λx=>f x.1++g x.2) l k:=λx r hx e=>h x.1 (g x.2++r) hx.1 (by rw[e,List.append_assoc])
theorem No.snd (hs:Seg (f x) l k k1)(hp:Pre Q f)(hx:Q x)(h:No Q' g l k1):No (λx:α×β=>Q x.1∧Q' x.2) (λx=>f x.1++g x.2) l k:=by
 intro y r hy e;obtain ⟨_,h2⟩:=hs.uniq hp hx hy.1 (r:=g y.2++r) (by rw[e,List.append_assoc]);exact h y.2 r hy.2 h2
theorem pre_num:Pre (λ_:BitVec 64=>True) λq=>num q.toNat:=λx y r s _ _ e=>by
 obtain ⟨h1,h2⟩:=num_pre _ _ _ _ e;exact ⟨BitVec.eq_of_toNat_eq h1,h2⟩
theorem No.len (h:No (λ_:BitVec 64=>True) (λq=>num q.toNat) l k)(hf:∀x,1<=(f x).length)(hl:l.length<2^64):No (λxs:List α=>∀x∈xs,Q x) (λxs=>num xs.length++xs.flatMap f) l k:=by
 intro xs r _ e;have hb:xs.length<=l.length:=by
  have h1:xs.length<=(xs.flatMap f).length:=by
   clear e
   induction xs with
   |nil=>simp
   |cons x xs ih=>have:=hf x;have:=ih (λy hy=>by simp_all);simp only[List.flatMap_cons,List.length_append,List.length_cons];omega
  have h2:=congrArg List.length e;simp only[List.length_drop,List.length_append] at h2
  omega
 refine h (BitVec.ofNat 64 xs.length) (xs.flatMap f++r) trivial ?_;show l.drop k=num (BitVec.ofNat 64 xs.length).toNat++(xs.flatMap f++r);rw[BitVec.toNat_ofNat,Nat.mod_eq_of_lt (by omega),e,List.append_assoc]
theorem No.many {n:Nat}{k0:Nat}{ds:List α}(hn:Seg (num n) l k k0)(hp:Pre Q f)(hq:∀x∈ds,Q x)(hs:Seg (ds.flatMap f) l k0 k1)(hj:ds.length<n)(h:No Q f l k1):No (λxs:List α=>∀x∈xs,Q x) (λxs=>num xs.length++xs.flatMap f) l k:=by
 intro xs r hx e;have e1:num n++l.drop k0=num xs.length++(xs.flatMap f++r):=by rw[<-hn.1,e,List.append_assoc]
 obtain ⟨rfl,e2⟩:=num_pre _ _ _ _ e1;obtain ⟨y,ys,hd⟩:∃y ys,xs.drop ds.length=y::ys:=by
  cases hc:xs.drop ds.length with
  |nil=>have:=congrArg List.length hc;simp only[List.length_drop,List.length_nil] at this;omega
  |cons y ys=>exact ⟨y,ys,rfl⟩
 have e3:ds.flatMap f++l.drop k1=(xs.take ds.length).flatMap f++((y::ys).flatMap f++r):=by
  rw[<-hs.1,e2,<-hd,<-List.append_assoc,<-List.flatMap_append,List.take_append_drop]
 obtain ⟨_,e4⟩:=pre_many hp _ _ _ _ hq (λx hm=>hx x (List.mem_of_mem_take hm)) (by rw[List.length_take];omega) e3;refine h y (ys.flatMap f++r) (hx y (by rw[<-List.take_append_drop ds.length xs,hd];simp)) ?_;rw[e4,List.flatMap_cons,List.append_assoc]
theorem Seg.many {n k0:Nat}{ds:List α}(hn:Seg (num n) l k k0)(hs:Seg (ds.flatMap f) l k0 k1)(hj:ds.length=n):Seg (num ds.length++ds.flatMap f) l k k1:=(hn.cast (by rw[hj])).app hs
theorem Seg.snoc {ds:List α}{d:α}(hs:Seg (ds.flatMap f) l k k1)(hd:Seg (f d) l k1 k2):Seg ((ds++[d]).flatMap f) l k k2:=(hs.app hd).cast (by rw[List.flatMap_append,List.flatMap_singleton])
theorem No.int {m:Nat}(h:No (λq:BitVec 64=>q.toNat<=m) (λq=>num q.toNat) l k)(hm:m<2^63):No (λx:Int=>0<=x∧x<=m) (λx=>num (u x)) l k:=by
 intro x r hx e;refine h (BitVec.ofInt 64 x) r ?_ e;show (BitVec.ofInt 64 x).toNat<=m;rw[BitVec.toNat_ofInt]
 omega
theorem u_toInt (q:BitVec 64):u q.toInt=q.toNat:=by unfold u;rw[BitVec.ofInt_toInt]
theorem toInt_le {q:BitVec 64}{m:Nat}(h:q.toNat<=m)(hm:m<2^63):0<=q.toInt∧q.toInt<=m:=by
 rw[BitVec.toInt_eq_toNat_cond,if_pos (by omega)]
 omega
end
def valN:List UInt8->Nat
 |[]=>0
 |c::l=>c.toNat%128+128*valN l
theorem valN_num (n:Nat):valN (num n)=n:=by
 induction n using Nat.strongRecOn with
 |_ n ih=>
  by_cases h:n<128
  ·rw [num_lt h];simp only[valN,UInt8.toNat_ofNat'];omega
  ·rw [num_ge h];simp only[valN,UInt8.toNat_ofNat',ih (n/128) (by omega)];omega
theorem num_shape (q:Nat):∃init last,num q=init++[last]∧(∀c∈init,128<=c.toNat)∧last.toNat<128∧(q≠0->last.toNat≠0)∧(init≠[]->q≠0)∧last.toNat*128^init.length<=q:=by
 induction q using Nat.strongRecOn with
 |_ q ih=>
  by_cases h:q<128
  ·refine ⟨[],UInt8.ofNat q,by rw[num_lt h];rfl,by simp,?_,?_,by simp,?_⟩
   ·simp only[UInt8.toNat_ofNat'];omega
   ·simp only[UInt8.toNat_ofNat'];omega
   ·simp only[UInt8.toNat_ofNat',List.length_nil,Nat.pow_zero];omega
  ·obtain ⟨init,last,h1,h2,h3,h4,h5,h6⟩:=ih (q/128) (by omega)
   refine ⟨UInt8.ofNat (128+q%128)::init,last,by rw[num_ge h,h1];rfl,?_,h3,λ_=>h4 (by omega),λ_=>by omega,?_⟩
   ·intro c hc
    rcases List.mem_cons.1 hc with rfl|hc
    ·simp only[UInt8.toNat_ofNat'];omega
    ·exact h2 c hc
   ·rw [List.length_cons,Nat.pow_succ,<-Nat.mul_assoc]
    have:=Nat.mul_le_mul_right 128 h6
    omega
theorem num_back:∀(init:List UInt8) (last:UInt8),(∀c∈init,128<=c.toNat)->last.toNat<128->(init≠[]->last.toNat≠0)->num (valN (init++[last]))=init++[last]∧(last.toNat≠0->valN (init++[last])≠0)
 |[],last,_,h2,_=>by
  have e:valN ([]++[last])=last.toNat:=by simp only[List.nil_append,valN];omega
  rw[e,num_lt h2];exact ⟨by simp,λh=>h⟩
 |c::init,last,h1,h2,h3=>by
  obtain ⟨i1,i2⟩:=num_back init last (λx hx=>h1 x (by simp[hx])) h2 (λ_=>h3 (by simp));have hc:=h1 c (by simp);have hc2:=c.toNat_lt;have hv:=i2 (h3 (by simp));have e:valN (c::init++[last])=c.toNat%128+128*valN (init++[last]):=rfl;rw[e];refine ⟨?_,λ_=>by omega⟩;rw[num_ge (by omega),show (c.toNat%128+128*valN (init++[last]))/128=valN (init++[last]) by omega,i1,show (c.toNat%128+128*valN (init++[last]))%128=c.toNat%128 by omega];have:UInt8.ofNat (128+c.toNat%128)=c:=UInt8.toNat_inj.1 (by simp only[UInt8.toNat_ofNat'];omega);rw[this]
  rfl
theorem valN_lt:∀(init:List UInt8) (last:UInt8),last.toNat<128->valN (init++[last])<(last.toNat+1)*128^init.length
 |[],last,h=>by simp only[List.nil_append,valN,List.length_nil,Nat.pow_zero];omega
 |c::init,last,h=>by
  have ih:=valN_lt init last h;have e:valN (c::init++[last])=c.toNat%128+128*valN (init++[last]):=rfl;rw[e,List.length_cons,Nat.pow_succ,<-Nat.mul_assoc]
  omega
def small7 (c:UInt8):Bool:=decide (c.toNat<128)
def endN (x:List UInt8):Int:=idx small7 (x.take 10)
theorem pow9:128^9=9223372036854775808:=by decide
theorem small_len {init:List UInt8}{last:UInt8}{q:Nat}(hq:q<2^64)(h:last.toNat*128^init.length<=q)(h0:init≠[]->last.toNat≠0):init.length<=9∧(init.length=9->last.toNat<=1):=by
 have h1:init.length<=9:=by
  rcases Nat.lt_or_ge 9 init.length with h2|h2
  ·exfalso
   have h3:init≠[]:=by intro h;rw[h] at h2;simp at h2
   have h4:=h0 h3;have h5:128^10<=128^init.length:=Nat.pow_le_pow_right (by decide) h2;have h6:128^10=1180591620717411303424:=by decide
   have h7:1*128^init.length<=last.toNat*128^init.length:=Nat.mul_le_mul_right _ (by omega)
   omega
  ·exact h2
 refine ⟨h1,λh2=>?_⟩;rw[h2,pow9] at h
 omega
theorem num_stands {q:Nat}{x r:List UInt8}(hq:q<2^64)(h:x=num q++r):∃e:Nat,endN x=e∧∃he:e<x.length,e<=9∧num q=x.take (e+1)∧(0<e->x[e].toNat≠0)∧(e=9->x[e].toNat<=1)∧x[e].toNat<128∧∀i,∀hi:i<x.length,i<e->¬x[i].toNat<128:=by
 obtain ⟨init,last,h1,h2,h3,h4,h5,h6⟩:=num_shape q;have h0:init≠[]->last.toNat≠0:=λh=>h4 (h5 h)
 obtain ⟨h7,h8⟩:=small_len hq h6 h0;have hx:x=init++last::r:=by rw[h,h1];simp
 have hl:init.length<x.length:=by rw[hx];simp
 have hget:x[init.length]=last:=by
  have:x[init.length]? =some last:=by rw[hx];simp
  rw[List.getElem?_eq_getElem hl] at this;exact Option.some.inj this
 have hlow:∀i,∀hi:i<x.length,i<init.length->¬x[i].toNat<128:=by
  intro i hi hii;have:x[i]? =some init[i]:=by rw[hx,List.getElem?_append_left hii,List.getElem?_eq_getElem hii]
  rw[List.getElem?_eq_getElem hi] at this;rw[Option.some.inj this];have:=h2 _ (List.getElem_mem hii)
  omega
 refine ⟨init.length,?_,hl,h7,?_,λh=>by rw[hget];exact h0 (by intro h2;rw[h2] at h;simp at h),λh=>by rw[hget];exact h8 h,by rw[hget];exact h3,hlow⟩
 ·unfold endN
  have hl2:init.length<(x.take 10).length:=by rw[List.length_take];omega
  refine idx_yes hl2 ?_ λi hi hii=>?_
  ·rw [List.getElem_take,hget];exact decide_eq_true h3
  ·rw [List.getElem_take];exact dF (hlow i (by rw[List.length_take] at hi;omega) hii)
 ·rw [h1,hx,show init++last::r=(init++[last])++r by simp,List.take_left' (by simp)]
theorem stands_num {x:List UInt8}{e:Nat}(he:e<x.length)(h9:e<=9)(h1:∀i,∀hi:i<x.length,i<e->¬x[i].toNat<128)(h2:x[e].toNat<128)(h3:0<e->x[e].toNat≠0)(h4:e=9->x[e].toNat<=1):
 num (valN (x.take (e+1)))=x.take (e+1)∧valN (x.take (e+1))<2^64:=by
 have hx:x.take (e+1)=x.take e++[x[e]]:=List.take_succ_eq_append_getElem he;have hl:(x.take e).length=e:=by rw[List.length_take];omega
 rw[hx];refine ⟨(num_back _ _ ?_ h2 λh=>h3 ?_).1,?_⟩
 ·intro c hc
  obtain ⟨i,hi,rfl⟩:=List.getElem_of_mem hc;rw[List.getElem_take];have:=h1 i (by omega) (by omega)
  omega
 ·rcases Nat.eq_zero_or_pos e with h0|h0
  ·subst h0;simp at h
  ·exact h0
 ·have h5:=valN_lt (x.take e) x[e] h2
  rw[hl] at h5;rcases Nat.lt_or_ge e 9 with h6|h6
  ·have h7:128^e<=128^8:=Nat.pow_le_pow_right (by decide) (by omega)
   have h8:128^8=72057594037927936:=by decide
   have h9:(x[e].toNat+1)*128^e<=128*128^8:=Nat.mul_le_mul (by omega) h7
   omega
  ·have h7:e=9:=by omega
   have h8:=h4 h7;have h10:128^e=9223372036854775808:=by rw[h7]
   have h9:(x[e].toNat+1)*128^e<=2*128^e:=Nat.mul_le_mul (by omega) (Nat.le_refl _);rw[h10] at h9 h5
   omega
theorem endN_ge (x:List UInt8): -1<=endN x:=idx_ge _
theorem endN_at {x:List UInt8}{e:Nat}(h:endN x=e):e<x.length∧e<=9∧(∀he:e<x.length,x[e].toNat<128)∧∀i,∀hi:i<x.length,i<e->¬x[i].toNat<128:=by
 have h1:=idx_at (p:=small7) (l:=x.take 10) (k:=e) h;obtain ⟨⟨hk,h2⟩,h3⟩:=h1;rw[List.length_take] at hk;refine ⟨by omega,by omega,λhe=>?_,λi hi hie=>?_⟩
 ·rw [List.getElem_take] at h2
  exact of_decide_eq_true h2
 ·have:=h3 i (by rw[List.length_take];omega) hie
  rw[List.getElem_take] at this;exact of_decide_eq_false this
theorem no_num {x:List UInt8}(h:endN x<0∨(0<endN x∧∃he:(endN x).toNat<x.length,x[(endN x).toNat].toNat=0)∨(endN x=9∧∃he:(endN x).toNat<x.length,1<x[(endN x).toNat].toNat))(q:BitVec 64)(r:List UInt8):x≠num q.toNat++r:=by
 intro e;obtain ⟨k,h1,hk,_,_,h2,h3,_,_⟩:=num_stands q.isLt e;rw[h1] at h;simp only[Int.toNat_natCast] at h;rcases h with h|⟨h,_,h4⟩|⟨h,_,h4⟩
 ·omega
 ·exact h2 (by omega) h4
 ·have:=h3 (by omega);omega
theorem valN_step {x:List UInt8}{e i:Nat}(hi:i<=e)(he:e<x.length):valN ((x.take (e+1)).drop i)=(x[i]'(by omega)).toNat%128+128*valN ((x.take (e+1)).drop (i+1)):=by
 have h1:i<(x.take (e+1)).length:=by rw[List.length_take];omega
 rw[List.drop_eq_getElem_cons h1,valN,List.getElem_take]
theorem group (n:Nat)(c:UInt8):(BitVec.ofNat 64 n<<<7)|||((c.toBitVec&&& ~~~128#8).setWidth 64)=BitVec.ofNat 64 (c.toNat%128+128*n):=by
 have h1:(c.toBitVec&&& ~~~128#8)=BitVec.ofNat 8 (c.toNat%128):=by
  have:∀b:BitVec 8,b&&& ~~~128#8=BitVec.ofNat 8 (b.toNat%128):=by decide+kernel
  exact this c.toBitVec
 have hc:c.toNat%128<128:=Nat.mod_lt _ (by decide);rw[h1];have h2:(BitVec.ofNat 64 n<<<7)&&& (BitVec.ofNat 8 (c.toNat%128)).setWidth 64=0#64:=by
  apply BitVec.eq_of_getLsbD_eq
  intro i hi;rw[BitVec.getLsbD_and,BitVec.getLsbD_shiftLeft,BitVec.getLsbD_setWidth]
  by_cases h7:i<7
  ·simp [h7]
  ·have:(BitVec.ofNat 8 (c.toNat%128)).getLsbD i=false:=by
    rw[BitVec.getLsbD_ofNat];have:(c.toNat%128).testBit i=false:=Nat.testBit_lt_two_pow (Nat.lt_of_lt_of_le hc (by rw[show (128:Nat)=2^7 by decide];exact Nat.pow_le_pow_right (by decide) (by omega)))
    simp[this]
   simp[this]
 rw[<-BitVec.add_eq_or_of_and_eq_zero _ _ h2]
 apply BitVec.eq_of_toNat_eq
 simp only[BitVec.toNat_add,BitVec.toNat_shiftLeft,BitVec.toNat_ofNat,BitVec.toNat_setWidth,Nat.shiftLeft_eq]
 omega
end Go.Pn.Cn
end
section
namespace Go.Pn.Cn
open Go Go.Pn
theorem take_min (x:List UInt8):x.take (min x.length 10)=x.take 10:=by
 rw[List.take_eq_take_iff]
 omega
def badN (x:List UInt8)(e:Int):Prop:=e<0∨(0<e∧(x.getD e.toNat 0).toNat=0)∨(e=9∧1<(x.getD e.toNat 0).toNat)
instance (x:List UInt8) (e:Int):Decidable (badN x e):=by unfold badN;infer_instance
theorem getD_at {x:List UInt8}{k:Nat}(h:k<x.length):x.getD k 0=x[k]:=by rw[List.getD_eq_getElem?_getD,List.getElem?_eq_getElem h];rfl
theorem bad_no {l:List UInt8}{k:Nat}{e:Int}(he:e=endN (l.drop k))(h:badN (l.drop k) e):No (λ_:BitVec 64=>True) (λq=>num q.toNat) l k:=by
 intro q r _;refine no_num ?_ q r;subst he;rcases h with h|⟨h,h2⟩|⟨h,h2⟩
 ·exact .inl h
 ·obtain ⟨hx,_⟩:=endN_at (x:=l.drop k) (e:=(endN (l.drop k)).toNat) (by omega)
  rw[getD_at hx] at h2;exact .inr (.inl ⟨h,hx,h2⟩)
 ·obtain ⟨hx,_⟩:=endN_at (x:=l.drop k) (e:=(endN (l.drop k)).toNat) (by omega)
  rw[getD_at hx] at h2;exact .inr (.inr ⟨h,hx,h2⟩)
theorem good_num {l:List UInt8}{k:Nat}{e:Int}(hk:k<=l.length)(he:e=endN (l.drop k))(h:¬badN (l.drop k) e):
 Seg (num (BitVec.ofNat 64 (valN ((l.drop k).take (e.toNat+1)))).toNat) l k (k+(e.toNat+1)):=by
 unfold badN at h;have h0:0<=e:=by omega
 obtain ⟨h1,h2,h3,h4⟩:=endN_at (x:=l.drop k) (e:=e.toNat) (by omega);rw[getD_at h1] at h;obtain ⟨h5,h6⟩:=stands_num h1 h2 h4 (h3 h1) (λ_=>by omega) (λ_=>by omega);rw[BitVec.toNat_ofNat,Nat.mod_eq_of_lt h6,h5];have hl:((l.drop k).take (e.toNat+1)).length=e.toNat+1:=by rw[List.length_take];omega
 have:=Seg.take (l:=l) (k:=k) (s:=(l.drop k).take (e.toNat+1)) (by rw[hl]) (by rw[hl];rw[List.length_drop] at h1;omega);rw[hl] at this;exact this
theorem len_flat {α:Type}{f:α->List UInt8}(hf:∀x,1<=(f x).length)(l:List α):l.length<=(l.flatMap f).length:=by
 induction l with
 |nil=>simp
 |cons x l ih=>have:=hf x;simp only[List.flatMap_cons,List.length_append,List.length_cons];omega
theorem dotB_ge (d:Dot):1<=(dotB d).length:=by unfold dotB;have:=num_len (u d.1);rw[List.length_append];omega
theorem markB_ge (m:Mark):1<=(markB m).length:=by unfold markB;have:=num_len (u m.1.1);rw[List.length_append];omega
theorem itemB_ge (x:Item):1<=(itemB x).length:=by unfold itemB strB;have:=num_len x.1.length;simp only[List.length_append];omega
def dotQ (d:Dot):Prop:=(0<=d.1∧d.1<=65535)∧(0<=d.2∧d.2<=4294967295)
def markQ (m:Mark):Prop:=dotQ m.1∧(0<=m.2.1∧m.2.1<=2147483647)
def itemQ (x:Item):Prop:=x.1.length<=64∧∀m∈x.2,markQ m
theorem dotQ_R {d:Dot}(h:dotQ d):dotR d:=by unfold dotQ at h;unfold dotR InR;omega
theorem markQ_R {m:Mark}(h:markQ m):markR m:=by unfold markQ dotQ at h;unfold markR InR;omega
theorem pre_mono {α:Type}{Q Q':α->Prop}{f:α->List UInt8}(h:Pre Q f)(hq:∀x,Q' x->Q x):Pre Q' f:=λx y r s hx hy e=>h x y r s (hq x hx) (hq y hy) e
theorem pre_dotQ:Pre dotQ dotB:=pre_mono pre_dot λ_=>dotQ_R
theorem pre_markQ:Pre markQ markB:=pre_mono pre_mark λ_=>markQ_R
theorem pre_itemQ:Pre itemQ itemB:=pre_mono pre_item λ_ h m hm=>markQ_R (h.2 m hm)
theorem no_str {l:List UInt8}{k k1:Nat}{n:BitVec 64}{m:Int}(hn:Seg (num n.toNat) l k k1)(h:m<n.toNat∨l.length-k1<n.toNat):No (λs:List UInt8=>(s.length:Int)<=m) strB l k:=by
 intro s r hs e;unfold strB at e;rw[hn.1,List.append_assoc] at e;obtain ⟨h1,h2⟩:=num_pre _ _ _ _ e;have h3:=congrArg List.length h2;simp only[List.length_drop,List.length_append] at h3;have:=hn.2.2
 omega
theorem no_str_len {l:List UInt8}{k:Nat}{m:Int}(h:No (λ_:BitVec 64=>True) (λq=>num q.toNat) l k)(hl:l.length<2^64):No (λs:List UInt8=>(s.length:Int)<=m) strB l k:=by
 intro s r hs e;unfold strB at e;have h3:=congrArg List.length e;simp only[List.length_drop,List.length_append] at h3;refine h (BitVec.ofNat 64 s.length) (s++r) trivial ?_;show l.drop k=num (BitVec.ofNat 64 s.length).toNat++(s++r);rw[BitVec.toNat_ofNat,Nat.mod_eq_of_lt (by omega),e,List.append_assoc]
theorem seg_str {l:List UInt8}{k k1:Nat}{n:BitVec 64}(hn:Seg (num n.toNat) l k k1)(h:n.toNat<=l.length-k1):Seg (strB ((l.drop k1).take n.toNat)) l k (k1+n.toNat):=by
 have hle:=hn.2.2;have hl:((l.drop k1).take n.toNat).length=n.toNat:=by rw[List.length_take,List.length_drop];omega
 have h2:=Seg.take (l:=l) (k:=k1) (s:=(l.drop k1).take n.toNat) (by rw[hl]) (by rw[hl];omega);rw[hl] at h2;unfold strB;rw[hl];exact hn.app h2
theorem no_most {l:List UInt8}{k k1 m:Nat}{n:BitVec 64}(hn:Seg (num n.toNat) l k k1)(h:m<n.toNat):No (λq:BitVec 64=>q.toNat<=m) (λq=>num q.toNat) l k:=by
 intro q r hq e;obtain ⟨rfl,_⟩:=hn.uniq (f:=λq:BitVec 64=>num q.toNat) pre_num trivial trivial e
 omega
end Go.Pn.Cn
end
section
namespace Go.Pn.Cn
open Go Go.Pn
theorem pos_ofNat {m:Nat}(hm:m<2^64):(0#64<BitVec.ofNat 64 m)↔0<m:=by
 rw[BitVec.lt_def,BitVec.toNat_ofNat,BitVec.toNat_ofNat,Nat.mod_eq_of_lt hm,Nat.zero_mod]
theorem dec_ofNat {m:Nat}(h:0<m)(hm:m<2^64):BitVec.ofNat 64 m-1#64=BitVec.ofNat 64 (m-1):=by
 apply BitVec.eq_of_toNat_eq
 simp only[BitVec.toNat_sub,BitVec.toNat_ofNat]
 omega
abbrev NumQ (m:Nat)(l:List UInt8)(k:Nat):Prop:=No (λq:BitVec 64=>q.toNat<=m) (λq=>num q.toNat) l k
abbrev NumA (l:List UInt8)(k:Nat):Prop:=No (λ_:BitVec 64=>True) (λq=>num q.toNat) l k
abbrev SegN (q:BitVec 64)(l:List UInt8)(k k':Nat):Prop:=Seg (num q.toNat) l k k'
theorem numA_of {l:List UInt8}{k m:Nat}(h:NumQ m l k)(hm:2^64-1<=m):NumA l k:=h.mono λq _=>by have:=q.isLt;omega
section
variable {l:List UInt8}{k k1 k2 k3 k4:Nat}{n m q t:BitVec 64}{d:Dot}
theorem segI (h:SegN n l k k1):Seg (num (u n.toInt)) l k k1:=h.cast (by rw[u_toInt])
theorem noI {m:Nat}{M:Int}(h:NumQ m l k)(hm:m<2^63)(hM:M=m):No (λx:Int=>0<=x∧x<=M) (λx=>num (u x)) l k:=by subst hM;exact h.int hm
theorem inI {n:BitVec 64}{m:Nat}{M:Int}(h:n.toNat<=m)(hm:m<2^63)(hM:M=m):0<=n.toInt∧n.toInt<=M:=by subst hM;exact toInt_le h hm
theorem pre_uQ (M:Int)(hM:M<2^63):Pre (λx:Int=>0<=x∧x<=M) λx=>num (u x):=pre_mono pre_u λx hx=>by unfold InR;omega
theorem no_dot1 (h:NumQ 65535 l k):No dotQ dotB l k:=No.fst (Q':=λx:Int=>0<=x∧x<=4294967295) (g:=λx:Int=>num (u x)) (noI h (by decide) rfl)
theorem no_dot2 (hs:SegN n l k k1)(hn:n.toNat<=65535)(h:NumQ 4294967295 l k1):No dotQ dotB l k:=
 No.snd (f:=λx:Int=>num (u x)) (x:=n.toInt) (segI hs) (pre_uQ 65535 (by decide)) (inI hn (by decide) rfl) (noI h (by decide) rfl)
theorem seg_dot (h:SegN n l k k1)(h':SegN m l k1 k2):Seg (dotB (n.toInt,m.toInt)) l k k2:=(segI h).app (segI h')
theorem dotQ_mk (h:n.toNat<=65535)(h':m.toNat<=4294967295):dotQ (n.toInt,m.toInt):=⟨inI h (by decide) rfl,inI h' (by decide) rfl⟩
theorem markB_eq:markB=λx:Mark=>dotB x.1++(num (u x.2.1)++num x.2.2.toNat):=by funext x;unfold markB dotB;rw[List.append_assoc]
abbrev qtyQ:Int×BitVec 64->Prop:=λx=>(0<=x.1∧x.1<=2147483647)∧True
theorem no_mark (h:No (λx:Dot×(Int×BitVec 64)=>dotQ x.1∧qtyQ x.2) (λx=>dotB x.1++(num (u x.2.1)++num x.2.2.toNat)) l k):No markQ markB l k:=by
 rw[markB_eq];exact h.mono λx hx=>⟨hx.1,hx.2,trivial⟩
theorem no_mark1 (h:No dotQ dotB l k):No markQ markB l k:=no_mark (No.fst (Q':=qtyQ) (g:=λx:Int×BitVec 64=>num (u x.1)++num x.2.toNat) h)
theorem no_mark2 (hd:Seg (dotB d) l k k1)(hq:dotQ d)(h:NumQ 2147483647 l k1):No markQ markB l k:=
 no_mark (No.snd hd pre_dotQ hq (No.fst (Q':=λ_:BitVec 64=>True) (g:=λq:BitVec 64=>num q.toNat) (noI h (by decide) rfl)))
theorem no_mark3 (hd:Seg (dotB d) l k k1)(hq:dotQ d)(hn:SegN q l k1 k2)(hq2:q.toNat<=2147483647)(h:NumA l k2):No markQ markB l k:=
 no_mark (No.snd hd pre_dotQ hq (No.snd (f:=λx:Int=>num (u x)) (g:=λq:BitVec 64=>num q.toNat) (x:=q.toInt) (segI hn) (pre_uQ 2147483647 (by decide)) (inI hq2 (by decide) rfl) h))
theorem seg_mark (hd:Seg (dotB d) l k k1)(hn:SegN q l k1 k2)(ht:SegN t l k2 k3):Seg (markB (d,q.toInt,t)) l k k3:=by
 rw[markB_eq];exact hd.app ((segI hn).app ht)
theorem markQ_mk (h:dotQ d)(hq:q.toNat<=2147483647):markQ (d,q.toInt,t):=⟨h,inI hq (by decide) rfl⟩
section
variable {α:Type}{Q:α->Prop}{f:α->List UInt8}
def manyB (f:α->List UInt8)(xs:List α):List UInt8:=num xs.length++xs.flatMap f
def manyQ (Q:α->Prop)(xs:List α):Prop:=∀x∈xs,Q x
theorem pre_manyQ (h:Pre Q f):Pre (manyQ Q) (manyB f):=pre_list h
theorem no_many1 (h:NumA l k)(hf:∀x,1<=(f x).length)(hl:l.length<2^64):No (manyQ Q) (manyB f) l k:=No.len h hf hl
theorem no_many2 {ds:List α}(hn:SegN n l k k1)(hp:Pre Q f)(hq:manyQ Q ds)(hs:Seg (ds.flatMap f) l k1 k2)(hj:ds.length<n.toNat)(h:No Q f l k2):No (manyQ Q) (manyB f) l k:=No.many hn hp hq hs hj h
theorem seg_many {ds:List α}(hn:SegN n l k k1)(hs:Seg (ds.flatMap f) l k1 k2)(hj:ds.length=n.toNat):Seg (manyB f ds) l k k2:=Seg.many hn hs hj
theorem manyQ_nil:manyQ Q ([]:List α):=λ_ h=>by cases h
theorem manyQ_snoc {ds:List α}{d:α}(h:manyQ Q ds)(hd:Q d):manyQ Q (ds++[d]):=λx hx=>by
 rcases List.mem_append.1 hx with hx|hx
 ·exact h x hx
 ·rw [List.mem_singleton.1 hx];exact hd
theorem seg_len {ds:List α}(hf:∀x,1<=(f x).length)(hs:Seg (ds.flatMap f) l k k1):ds.length<=k1-k∧k1<=l.length:=by
 have h1:=len_flat hf ds;have h2:=hs.2.1;exact ⟨by omega,hs.2.2⟩
end
theorem itemB_eq:itemB=λx:Item=>strB x.1++manyB markB x.2:=rfl
abbrev nameQ:List UInt8->Prop:=λs=>(s.length:Int)<=64
theorem pre_nameQ:Pre nameQ strB:=pre_mono pre_str λ_ _=>trivial
theorem no_item (h:No (λx:Item=>nameQ x.1∧manyQ markQ x.2) (λx=>strB x.1++manyB markB x.2) l k):No itemQ itemB l k:=by
 rw[itemB_eq];exact h.mono λx hx=>⟨by have:=hx.1;show (x.1.length:Int)<=64;omega,hx.2⟩
theorem no_item1 (h:No nameQ strB l k):No itemQ itemB l k:=no_item (No.fst h)
theorem no_item2 {s:List UInt8}(hs:Seg (strB s) l k k1)(hq:nameQ s)(h:No (manyQ markQ) (manyB markB) l k1):No itemQ itemB l k:=no_item (No.snd hs pre_nameQ hq h)
theorem seg_item {s:List UInt8}{ms:List Mark}(hs:Seg (strB s) l k k1)(hm:Seg (manyB markB ms) l k1 k2):Seg (itemB (s,ms)) l k k2:=hs.app hm
theorem itemQ_mk {s:List UInt8}{ms:List Mark}(hs:nameQ s)(hm:manyQ markQ ms):itemQ (s,ms):=⟨by have:(s.length:Int)<=64:=hs;show s.length<=64;omega,hm⟩
abbrev ctxQ:Ctx->Prop:=λx=>manyQ dotQ x.1∧manyQ dotQ x.2
theorem pre_ctxQ:Pre ctxQ ctxB:=pre_pair (pre_manyQ pre_dotQ) (pre_manyQ pre_dotQ)
theorem okQ {d:Dot}(h:badD d=false):dotQ d:=by have:=okD_of h;unfold Dt.Valid at this;unfold dotQ;omega
theorem compactQ {x:Ctx}(h:isCompact x=true):ctxQ x:=by
 unfold isCompact ctxValid vecValid at h;simp only[Bool.and_eq_true] at h;obtain ⟨⟨⟨_,h1⟩,_,h2⟩,_⟩:=h;exact ⟨λd hd=>okQ (any_false h1 d hd),λd hd=>okQ (any_false h2 d hd)⟩
abbrev comp:Ctx->Prop:=λx=>isCompact x=true
theorem no_ctx1 (h:No (manyQ dotQ) (manyB dotB) l k):No ctxQ ctxB l k:=No.fst h
theorem no_ctx2 {v:List Dot}(hs:Seg (manyB dotB v) l k k1)(hq:manyQ dotQ v)(h:No (manyQ dotQ) (manyB dotB) l k1):No ctxQ ctxB l k:=No.snd hs (pre_manyQ pre_dotQ) hq h
theorem no_comp (h:No ctxQ ctxB l k):No comp ctxB l k:=h.mono λ_=>compactQ
theorem no_comp3 {x:Ctx}(hs:Seg (ctxB x) l k k1)(hq:ctxQ x)(h:isCompact x=false):No comp ctxB l k:=λy r hy e=>by
 obtain ⟨rfl,_⟩:=hs.uniq pre_ctxQ hq (compactQ hy) e;rw[show isCompact x=true from hy] at h;cases h
theorem seg_ctx {v c:List Dot}(hs:Seg (manyB dotB v) l k k1)(hs':Seg (manyB dotB c) l k1 k2):Seg (ctxB (v,c)) l k k2:=hs.app hs'
abbrev cartQ:Cart->Prop:=λc=>comp c.1∧manyQ itemQ c.2
theorem pre_comp:Pre comp ctxB:=pre_mono pre_ctxQ λ_=>compactQ
theorem pre_cartQ:Pre cartQ bytes:=pre_pair pre_comp (pre_manyQ pre_itemQ)
theorem okNameLen {s:List UInt8}(h:okName s=true):s.length<=64:=by
 unfold okName at h;simp only[Bool.and_eq_true,decide_eq_true_eq] at h;exact h.2.1.2
theorem okMQ {m:Mark}(h:badM m=false):markQ m:=by
 have h:okM m=true:=by unfold badM at h;simpa using h
 unfold okM at h;simp only[Bool.and_eq_true,decide_eq_true_eq] at h;obtain ⟨h1,h2,_⟩:=h;refine ⟨okQ (by unfold badD;rw[h1];rfl),by omega⟩
theorem okIQ {x:Item}(h:badI x=false):itemQ x:=by
 unfold badI at h;simp only[Bool.or_eq_false_iff,Bool.not_eq_false'] at h;obtain ⟨h1,_,_,h2⟩:=h;exact ⟨okNameLen h1,λm hm=>okMQ (any_false (by rw[h2];rfl) m hm)⟩
theorem validQ {c:Cart}(h:valid c=true):cartQ c:=by
 unfold valid itemsValid at h;simp only[Bool.and_eq_true] at h;obtain ⟨h1,⟨h2,_⟩,_⟩:=h;exact ⟨h1,λx hx=>okIQ (any_false h2 x hx)⟩
def big (c:Cart):Prop:=c.1.1.length<=1000000∧c.1.2.length<=1000000∧c.2.length<=1000000∧∀x∈c.2,x.1.length<=1000000∧x.2.length<=1000000
abbrev val:Cart->Prop:=λc=>valid c=true
theorem pre_val:Pre val bytes:=pre_mono pre_cartQ λ_=>validQ
theorem no_val (h:No cartQ bytes l k):No val bytes l k:=h.mono λ_=>validQ
theorem no_cart1 (h:No comp ctxB l k):No cartQ bytes l k:=No.fst h
theorem no_cart2 {x:Ctx}(hs:Seg (ctxB x) l k k1)(hx:isCompact x=true)(h:No (manyQ itemQ) (manyB itemB) l k1):No cartQ bytes l k:=No.snd hs pre_comp hx h
theorem seg_cart {x:Ctx}{its:List Item}(hs:Seg (ctxB x) l k k1)(hs':Seg (manyB itemB its) l k1 k2):Seg (bytes (x,its)) l k k2:=hs.app hs'
theorem no_val3 {c:Cart}(hs:Seg (bytes c) l k k1)(hq:cartQ c)(h:valid c=false):No val bytes l k:=λy r hy e=>by
 obtain ⟨rfl,_⟩:=hs.uniq pre_cartQ hq (validQ hy) e;rw[show valid c=true from hy] at h;cases h
end
end Go.Pn.Cn
namespace Go.Pn.Cn
def Pref (l:List UInt8)(c:Cart)(k:Nat)(e:Int):Prop:=(e=0∧valid c=true∧Seg (bytes c) l 0 k)∨(e=12∧k=0∧c=nil0∧No val bytes l 0)
theorem big_nil0:big nil0:=⟨by decide,by decide,by decide,λ_ h=>by cases h⟩
theorem no_whole {α:Type}{Q:α->Prop}{f:α->List UInt8}{l:List UInt8}(h:No Q f l 0)(y:α)(hy:Q y):l≠f y:=λe=>h y [] hy (by rw[List.drop_zero,e,List.append_nil])
theorem seg_whole {s l:List UInt8}{k:Nat}(h:Seg s l 0 k)(hk:k=l.length):l=s:=by
 have:=h.1;rw[hk,List.drop_zero,List.drop_length,List.append_nil] at this;exact this
theorem seg_end {s l:List UInt8}{k:Nat}(h:Seg s l 0 k):l=s++l.drop k:=by have:=h.1;rwa [List.drop_zero] at this
end Go.Pn.Cn
end
section
namespace Go.Pn.Crc
def bit (n:BitVec 32):BitVec 32:=if n%2#32=1#32 then n/2#32^^^3988292384#32 else n/2#32
def bits:Nat->BitVec 32->BitVec 32
 |0,n=>n
 |k+1,n=>bit (bits k n)
def step (n:BitVec 32)(x:BitVec 8):BitVec 32:=bits 8 (n^^^x.setWidth 32)
def steps (n:BitVec 32)(l:List UInt8):BitVec 32:=l.foldl (λn x=>step n x.toBitVec) n
def update (s:BitVec 32)(l:List UInt8):BitVec 32:= ~~~ (steps (~~~ s) l)
theorem steps_take (n:BitVec 32)(l:List UInt8){k:Nat}(h:k<l.length):steps n (l.take (k+1))=step (steps n (l.take k)) l[k].toBitVec:=by
 unfold steps;rw[List.take_succ_eq_append_getElem h,List.foldl_append]
 rfl
theorem and_one (n:BitVec 32):n&&& 1#32=n%2#32:=by
 apply BitVec.eq_of_toNat_eq
 rw[BitVec.toNat_and,BitVec.toNat_umod];exact Nat.and_one_is_mod _
theorem shr_one (n:BitVec 32):n>>>1=n/2#32:=by
 apply BitVec.eq_of_toNat_eq
 rw[BitVec.toNat_ushiftRight,BitVec.toNat_udiv,Nat.shiftRight_eq_div_pow]
 rfl
theorem bit_odd {n:BitVec 32}(h:n&&& 1#32=1#32):bit n=n>>>1^^^3988292384#32:=by
 rw[and_one] at h;unfold bit;rw[if_pos h,shr_one]
theorem bit_even {n:BitVec 32}(h:¬n&&& 1#32=1#32):bit n=n>>>1:=by
 rw[and_one] at h;unfold bit;rw[if_neg h,shr_one]
def tab (i:Nat):BitVec 32:=bits 8 (BitVec.ofInt 32 (i:Int))
def table:List (BitVec 32):=(List.range 256).map tab
theorem table_length:table.length=256:=by simp[table]
theorem table_get {i:Nat}(h:i<256):table[i]'(by rw[table_length];exact h)=tab i:=by simp[table]
def part (k:Nat):List Value:=(List.range 256).map λ(i:Nat)=>if i<k then Value.int .u32 ((tab i).toNat:Int) else .int .u32 0
theorem part0:(Value.agg (Array.replicate 256 (.int .u32 0))).cells.toList=part 0:=by
 simp[Value.cells,part,List.map_const']
theorem part_length (k:Nat):(part k).length=256:=by simp[part]
theorem part_set (k:Nat)(_h:k<256):(part k).set k (.int .u32 ((tab k).toNat:Int))=part (k+1):=by
 apply List.ext_getElem?
 intro i;simp only[part,List.getElem?_set,List.getElem?_map,List.length_map,List.length_range]
 by_cases hi:i<256
 ·by_cases hk:k=i
  ·subst hk;simp[hi]
  ·have:i<k+1↔i<k:=by omega
   simp[hi,hk,this]
 ·rw [List.getElem?_eq_none (by simp;omega)]
  by_cases hk:k=i<;>simp[hk,hi]
theorem part_all:part 256=table.flatMap u32F.e:=by
 unfold table part;rw[List.flatMap_map];have:∀l:List Nat,(∀i∈l,i<256)->l.map (λi=>if i<256 then Value.int .u32 ((tab i).toNat:Int) else .int .u32 0)=l.flatMap λi=>u32F.e (tab i):=by
  intro l
  induction l with
  |nil=>intro _;rfl
  |cons a l ih=>
   intro h;rw[List.map_cons,List.flatMap_cons,ih (λi hi=>h i (List.mem_cons_of_mem _ hi)),if_pos (h a (List.mem_cons_self ..))]
   rfl
 exact this (List.range 256) λi hi=>by simpa using hi
theorem bit_eq (n:BitVec 32):bit n=(n>>>1)^^^(if n.getLsbD 0 then 3988292384#32 else 0#32):=by
 have h0:(n%2#32=1#32)↔n.getLsbD 0=true:=by
  rw[<-BitVec.toNat_inj,BitVec.toNat_umod,BitVec.getLsbD,Nat.testBit_zero]
  simp
 unfold bit;rw[shr_one]
 by_cases h:n.getLsbD 0=true
 ·rw [if_pos (h0.2 h),if_pos h]
 ·rw [if_neg (λh'=>h (h0.1 h')),if_neg h]
  simp
theorem bit_xor (a b:BitVec 32):bit (a^^^b)=bit a^^^bit b:=by
 simp only[bit_eq,BitVec.getLsbD_xor];have:(a^^^b)>>>1=(a>>>1)^^^(b>>>1):=by
  apply BitVec.eq_of_getLsbD_eq
  intro i _
  simp
 rw[this]
 generalize a>>>1=A
 generalize b>>>1=B
 generalize 3988292384#32=p
 have key:∀x y z:Bool,(x^^y)=((x^^z)^^(y^^z)):=by decide
 have key2:∀x y z:Bool,((x^^y)^^z)=(x^^(y^^z)):=by decide
 have key3:∀x y z:Bool,((x^^y)^^z)=((x^^z)^^y):=by decide
 cases a.getLsbD 0<;>cases b.getLsbD 0<;>(apply BitVec.eq_of_getLsbD_eq;intro i _;simp only[BitVec.getLsbD_xor,Bool.xor_false,Bool.xor_true,Bool.not_true,Bool.not_false,if_true,if_false,BitVec.xor_zero,Bool.false_eq_true])
 ·rw [key2]
 ·rw [key3]
 ·exact key _ _ _
theorem bits_xor (k:Nat)(a b:BitVec 32):bits k (a^^^b)=bits k a^^^bits k b:=by
 induction k with
 |zero=>rfl
 |succ k ih=>simp only[bits,ih,bit_xor]
theorem bits_high (m:BitVec 32)(hm:m.toNat<2^24)(k:Nat)(hk:k<=8):bits k (m<<<8)=m<<<(8-k):=by
 induction k with
 |zero=>rfl
 |succ k ih=>
  simp only[bits];rw[ih (by omega),bit_eq];obtain ⟨j,hj⟩:∃j,8-k=j+1:=⟨7-k,by omega⟩
  have hj2:8-(k+1)=j:=by omega
  rw[hj,hj2];have h0:(m<<<(j+1)).getLsbD 0=false:=by simp
  rw[h0];simp only[Bool.false_eq_true,if_false,BitVec.xor_zero]
  apply BitVec.eq_of_getLsbD_eq
  intro i hi;simp only[BitVec.getLsbD_ushiftRight,BitVec.getLsbD_shiftLeft]
  by_cases h1:1+i<32
  ·have e1:decide (1+i<32)=true:=by simpa using h1
   have e2:decide (i<32)=true:=by simpa using hi
   by_cases h2:i<j
   ·simp [h2,show 1+i<j+1 by omega]
   ·simp [h2,e1,e2,show ¬(1+i<j+1) by omega,show 1+i-(j+1)=i-j by omega]
  ·have hi2:i=31:=by omega
   subst hi2;have hbig:m.getLsbD (31-j)=false:=by
    rw[BitVec.getLsbD]
    apply Nat.testBit_lt_two_pow
    exact Nat.lt_of_lt_of_le hm (Nat.pow_le_pow_right (by decide) (by omega))
   simp[hbig]
theorem step_tab (n:BitVec 32)(x:BitVec 8):step n x=tab (n.setWidth 8^^^x).toNat^^^n>>>8:=by
 have e:n^^^x.setWidth 32=(n.setWidth 8^^^x).setWidth 32^^^(n>>>8)<<<8:=by
  apply BitVec.eq_of_getLsbD_eq
  intro i hi;simp only[BitVec.getLsbD_xor,BitVec.getLsbD_setWidth,BitVec.getLsbD_shiftLeft,BitVec.getLsbD_ushiftRight];have e2:decide (i<32)=true:=by simpa using hi
  by_cases h:i<8
  ·simp [h,e2]
  ·have e3:8+(i-8)=i:=by omega
   have e4:x.getLsbD i=false:=BitVec.getLsbD_of_ge x i (by omega)
   simp[h,e2,e3,e4]
 unfold step tab;rw[e,bits_xor,bits_high _ _ 8 (Nat.le_refl _),BitVec.ofInt_natCast]
 ·have e1:((n.setWidth 8^^^x).setWidth 32:BitVec 32)=BitVec.ofNat 32 (n.setWidth 8^^^x).toNat:=by
   apply BitVec.eq_of_toNat_eq
   rw[BitVec.toNat_setWidth,BitVec.toNat_ofNat]
  rw[e1]
  simp
 ·rw [BitVec.toNat_ushiftRight,Nat.shiftRight_eq_div_pow]
  have:=n.isLt
  omega
end Go.Pn.Crc
end
section
namespace Go.Pn.Bt
open Go Go.Pn Go.Pn.Jn
def entB (x:Ent):List UInt8:=Cn.strB x.1++Cn.bytes x.2
def body (l:List Ent):List UInt8:=Cn.num l.length++l.flatMap entB
abbrev entQ:Ent->Prop:=λx=>True∧Cn.val x.2
abbrev allQ (l:List Ent):Prop:=∀x∈l,entQ x
theorem pre_ent:Cn.Pre entQ entB:=Cn.pre_pair (f:=Cn.strB) (g:=Cn.bytes) Cn.pre_str Cn.pre_val
theorem pre_body:Cn.Pre allQ body:=Cn.pre_list pre_ent
theorem valQ {l:List Ent}(h:valid l=true):allQ l:=λx hx=>by
 unfold valid at h;rw[Bool.and_eq_true] at h;exact ⟨trivial,good_iff.2 ((ord_iff.1 h.2).ok x hx).2⟩
def sum4 (n:BitVec 32):List UInt8:=[UInt8.ofBitVec ((n>>>24).setWidth 8),UInt8.ofBitVec ((n>>>16).setWidth 8),UInt8.ofBitVec ((n>>>8).setWidth 8),UInt8.ofBitVec (n.setWidth 8)]
theorem sum4_len (n:BitVec 32):(sum4 n).length=4:=rfl
def sumOf (l:List UInt8):BitVec 32:=Crc.update 0#32 l
def end4 (b:List UInt8):List UInt8:=b++sum4 (sumOf b)
def enc (l:List Ent):List UInt8:=end4 (body l)
theorem end4_len (b:List UInt8):(end4 b).length=b.length+4:=by unfold end4;rw[List.length_append,sum4_len]
theorem end4_inj {b c:List UInt8}(h:end4 b=end4 c):b=c:=by
 have hl:=congrArg List.length h;rw[end4_len,end4_len] at hl;exact (List.append_inj h (by omega)).1
theorem enc_inj {l l':List Ent}(h:valid l=true)(h':valid l'=true)(e:enc l=enc l'):l=l':=
 (pre_body l l' [] [] (valQ h) (valQ h') (by rw[end4_inj e])).1
end Go.Pn.Bt
end
section
namespace Go.Pn.Bt
open Go Go.Pn Go.Pn.Jn
def fits (g:List Ent):Prop:=g.length<=1024∧(body g).length+4<=65536
instance decFits (g:List Ent):Decidable (fits g):=inferInstanceAs (Decidable (_∧_))
def splitO:List Ent->List Ent->List (List Ent)
 |[],[]=>[]
 |c::cur,[]=>[c::cur]
 |[],x::l=>splitO [x] l
 |c::cur,x::l=>if fits (c::cur++[x]) then splitO (c::cur++[x]) l else (c::cur)::splitO [x] l
def split (l:List Ent):List (List Ent):=splitO [] l
section
variable {cur l:List Ent}{x:Ent}
theorem splitO_first:splitO [] (x::l)=splitO [x] l:=by rw[splitO]
theorem splitO_yes (h:cur≠[])(hf:fits (cur++[x])):splitO cur (x::l)=splitO (cur++[x]) l:=by
 cases cur with
 |nil=>exact absurd rfl h
 |cons c cur=>rw[splitO,if_pos hf]
theorem splitO_no (h:cur≠[])(hf:¬fits (cur++[x])):splitO cur (x::l)=cur::splitO [x] l:=by
 cases cur with
 |nil=>exact absurd rfl h
 |cons c cur=>rw[splitO,if_neg hf]
theorem splitO_end (h:cur≠[]):splitO cur []=[cur]:=by
 cases cur with
 |nil=>exact absurd rfl h
 |cons c cur=>rw[splitO]
theorem splitO_flat:∀(l cur:List Ent),(splitO cur l).flatten=cur++l:=by
 intro l
 induction l with
 |nil=>
  intro cur;cases cur with
  |nil=>rfl
  |cons c cur=>rw[splitO];simp
 |cons x l ih=>
  intro cur;cases cur with
  |nil=>rw[splitO,ih];rfl
  |cons c cur=>
   rw[splitO]
   split
   ·rw [ih];simp
   ·rw [List.flatten_cons,ih];simp
theorem splitO_good:∀(l cur:List Ent),(cur≠[]->cur.length=1∨fits cur)->∀g∈splitO cur l,g≠[]∧(g.length=1∨fits g):=by
 intro l
 induction l with
 |nil=>
  intro cur h g hg;cases cur with
  |nil=>cases hg
  |cons c cur=>
   rw[splitO,List.mem_singleton] at hg;subst hg;exact ⟨by simp,h (by simp)⟩
 |cons x l ih=>
  intro cur h g hg;cases cur with
  |nil=>rw[splitO] at hg;exact ih [x] (λ_=>.inl rfl) g hg
  |cons c cur=>
   rw[splitO] at hg
   split at hg
   ·rename_i hf
    exact ih _ (λ_=>.inr hf) g hg
   ·rcases List.mem_cons.1 hg with e|hg
    ·subst e;exact ⟨by simp,h (by simp)⟩
    ·exact ih [x] (λ_=>.inl rfl) g hg
theorem split_flat (l:List Ent):(split l).flatten=l:=splitO_flat l []
theorem split_good {g:List Ent}(h:g∈split l):g≠[]∧(g.length=1∨fits g):=splitO_good l [] (λh=>absurd rfl h) g h
theorem sub_flatten {α:Type}{g:List α}:∀{L:List (List α)},g∈L->g.Sublist L.flatten:=by
 intro L
 induction L with
 |nil=>intro h;cases h
 |cons a L ih=>
  intro h;rw[List.flatten_cons];rcases List.mem_cons.1 h with e|h
  ·subst e;exact List.sublist_append_left _ _
  ·exact (ih h).trans (List.sublist_append_right _ _)
theorem split_sub {g:List Ent}(h:g∈split l):g.Sublist l:=by have:=sub_flatten h;rwa [split_flat] at this
theorem split_valid {g:List Ent}(hl:Ord l)(h:g∈split l):valid g=true:=by
 unfold valid;rw[Bool.and_eq_true];refine ⟨decide_eq_true ?_,ord_iff.2 (hl.part (split_sub h))⟩;rcases (split_good h).2 with q|q
 ·omega
 ·exact q.1
theorem body_len (l:List Ent):(body l).length=(Cn.num l.length).length+(l.flatMap entB).length:=by unfold body;rw[List.length_append]
theorem enc_len (l:List Ent):(enc l).length=(body l).length+4:=end4_len _
theorem one_body (x:Ent):(body [x]).length=1+(entB x).length:=by
 rw[body_len,List.length_singleton,List.flatMap_singleton,Cn.num_lt (by decide)]
 rfl
theorem body_snoc (cur:List Ent)(x:Ent):(body (cur++[x])).length=(Cn.num (cur.length+1)).length+((cur.flatMap entB).length+(entB x).length):=by
 rw[body_len,List.length_append,List.flatMap_append,List.length_append,List.flatMap_singleton]
 rfl
def Done (l:List Ent)(done:List (List Ent))(cur rest:List Ent):Prop:=split l=done++splitO cur rest
theorem Done.start (l:List Ent):Done l [] [] l:=rfl
theorem Done.first {done:List (List Ent)}{rest:List Ent}(h:Done l done [] (x::rest)):Done l done [x] rest:=by unfold Done at h ⊢;rw[h,splitO_first]
theorem Done.yes {done:List (List Ent)}{rest:List Ent}(h:Done l done cur (x::rest))(hc:cur≠[])(hf:fits (cur++[x])):Done l done (cur++[x]) rest:=by unfold Done at h ⊢;rw[h,splitO_yes hc hf]
theorem Done.no {done:List (List Ent)}{rest:List Ent}(h:Done l done cur (x::rest))(hc:cur≠[])(hf:¬fits (cur++[x])):Done l (done++[cur]) [x] rest:=by unfold Done at h ⊢;rw[h,splitO_no hc hf];simp
theorem Done.fin {done:List (List Ent)}(h:Done l done cur [])(hc:cur≠[]):split l=done++[cur]:=by unfold Done at h;rw[h,splitO_end hc]
theorem Done.fin0 {done:List (List Ent)}(h:Done l done [] []):split l=done:=by unfold Done at h;rw[h];simp[splitO]
theorem Done.cur_mem {done:List (List Ent)}{rest:List Ent}(h:Done l done cur rest)(hc:cur≠[])(hn:∀x r,rest=x::r->¬fits (cur++[x])):cur∈split l:=by
 cases rest with
 |nil=>rw[h.fin hc];simp
 |cons x r=>have:=h.no hc (hn x r rfl);unfold Done at this;rw[this];simp
end
end Go.Pn.Bt
end
section
namespace Go.Pn.Bt
open Go Go.Pn Go.Pn.Jn Go.Pn.Cn
abbrev okQ:Ent->Prop:=λx=>nameQ x.1∧val x.2
theorem pre_okQ:Pre okQ entB:=pre_pair (f:=strB) (g:=Cn.bytes) pre_nameQ pre_val
theorem no_okQ1 {l:List UInt8}{k:Nat}(h:No nameQ strB l k):No okQ entB l k:=No.fst (Q':=val) (g:=Cn.bytes) h
theorem no_okQ2 {l:List UInt8}{k k1:Nat}{s:List UInt8}(hs:Seg (strB s) l k k1)(hq:nameQ s)(h:No val Cn.bytes l k1):No okQ entB l k:=No.snd (f:=strB) (Q':=val) (g:=Cn.bytes) hs pre_nameQ hq h
theorem seg_ent {l:List UInt8}{k k1 k2:Nat}{s:List UInt8}{c:Cart}(hs:Seg (strB s) l k k1)(h:Seg (Cn.bytes c) l k1 k2):Seg (entB (s,c)) l k k2:=hs.app h
theorem seg_drop {s l:List UInt8}{k n:Nat}(h:Seg s (l.drop k) 0 n)(hk:k<=l.length):Seg s l k (k+n):=by
 obtain ⟨h1,h2,h3⟩:=h;rw[List.drop_zero] at h1;rw[List.length_drop] at h3;refine ⟨?_,by omega,by omega⟩;rw[List.drop_drop] at h1;exact h1
theorem no_drop {α:Type}{Q:α->Prop}{f:α->List UInt8}{l:List UInt8}{k:Nat}(h:No Q f (l.drop k) 0):No Q f l k:=λx r hx e=>h x r hx (by rw[List.drop_zero];exact e)
def EntRes (p:List UInt8)(l:List Ent)(ok:Bool):Prop:=(ok=true∧manyQ okQ l∧l.length<=1024∧p=body l)∨(ok=false∧∀l',manyQ okQ l'->l'.length<=1024->p≠body l')
theorem key_len {s:List UInt8}(h:okKey s=true):1<=s.length∧s.length<=64:=by
 unfold okKey at h;rw[Bool.and_eq_true,decide_eq_true_iff] at h;exact h.2
theorem valid_okQ {l:List Ent}(h:valid l=true):manyQ okQ l∧l.length<=1024:=by
 unfold valid at h;rw[Bool.and_eq_true,decide_eq_true_iff] at h;refine ⟨λx hx=>?_,h.1⟩;obtain ⟨h1,h2⟩:=(ord_iff.1 h.2).ok x hx;have:=key_len h1;exact ⟨by show (x.1.length:Int)<=64;omega,good_iff.2 h2⟩
def BodyRes (p:List UInt8)(l:List Ent)(ok:Bool):Prop:=(ok=true∧valid l=true∧p=body l)∨(ok=false∧∀l',valid l'=true->p≠body l')
theorem EntRes.bodyR {p:List UInt8}{l:List Ent}{ok:Bool}(h:EntRes p l ok):BodyRes p l (ok&&valid l):=by
 rcases h with ⟨rfl,h1,h2,h3⟩|⟨rfl,h1⟩
 ·cases hv:valid l with
  |true=>exact .inl ⟨rfl,hv,h3⟩
  |false=>
   refine .inr ⟨rfl,λl' hl' e=>?_⟩;have e2:body l++[]=body l'++[]:=by rw[<-h3,e]
   obtain ⟨q,_⟩:=pre_list pre_okQ l l' [] [] h1 (valid_okQ hl').1 e2;rw[q,hl'] at hv;cases hv
 ·exact .inr ⟨rfl,λl' hl'=>h1 l' (valid_okQ hl').1 (valid_okQ hl').2⟩
def DecRes (p:List UInt8)(l:List Ent)(e:Int):Prop:=(e=0∧valid l=true∧p=enc l)∨(e=12∧l=[]∧∀l',valid l'=true->p≠enc l')
theorem DecRes.uniq {p:List UInt8}{l l':List Ent}{e e':Int}(h:DecRes p l e)(h':DecRes p l' e'):l=l'∧e=e':=by
 rcases h with ⟨rfl,h1,h2⟩|⟨rfl,rfl,h2⟩<;>rcases h' with ⟨rfl,k1,k2⟩|⟨rfl,rfl,k2⟩
 ·exact ⟨enc_inj h1 k1 (h2.symm.trans k2),rfl⟩
 ·exact absurd h2 (k2 l h1)
 ·exact absurd k2 (h2 l' k1)
 ·exact ⟨rfl,rfl⟩
theorem DecRes.of_enc {l:List Ent}(h:valid l=true):DecRes (enc l) l 0:=.inl ⟨rfl,h,rfl⟩
theorem DecRes.none {p:List UInt8}(h:∀l',valid l'=true->p≠enc l'):DecRes p [] 12:=.inr ⟨rfl,rfl,h⟩
theorem dec_short {p:List UInt8}(h:p.length<4):DecRes p [] 12:=.none λl' _ e=>by have:=enc_len l';rw[<-e] at this;omega
theorem dec_sum {p:List UInt8}(h:p≠end4 (p.take (p.length-4))):DecRes p [] 12:=.none λl' _ e=>by
 refine h ?_;have hl:=enc_len l';have e2:p.take (p.length-4)=body l':=by
  rw[e,hl,Nat.add_sub_cancel];exact List.take_left' rfl
 rw[e2];exact e
theorem dec_body {p:List UInt8}{l:List Ent}{ok:Bool}(h:p=end4 (p.take (p.length-4)))(hb:BodyRes (p.take (p.length-4)) l ok):DecRes p (if ok then l else []) (if ok then 0 else 12):=by
 rcases hb with ⟨rfl,h1,h2⟩|⟨rfl,h1⟩
 ·refine .inl ⟨rfl,h1,?_⟩
  rw[h2] at h;exact h
 ·refine .none λl' hl' e=>h1 l' hl' ?_
  have hl:=enc_len l';rw[e,hl,Nat.add_sub_cancel];exact List.take_left' rfl
end Go.Pn.Bt
end
section
namespace Go.Pn.Bt
open Go Go.Pn Go.Pn.Jn
def sepB (c:UInt8):Bool:=decide (c.toNat=45)||(decide (c.toNat=95)||(decide (c.toNat=46)||decide (c.toNat=47)))
abbrev oddB (y:UInt8):Prop:=(y.toBitVec<97#8∨122#8<y.toBitVec)∧(y.toBitVec<48#8∨57#8<y.toBitVec)
theorem odd_iff (y:UInt8):oddB y↔(y.toNat<97∨122<y.toNat)∧(y.toNat<48∨57<y.toNat):=Iff.rfl
theorem keyB_of {y:UInt8}(h:¬oddB y):keyB y=true:=by
 rw[odd_iff] at h;unfold keyB
 by_cases h1:97<=y.toNat∧y.toNat<=122
 ·simp [h1.1,h1.2]
 ·have h2:48<=y.toNat∧y.toNat<=57:=by omega
  simp[h2.1,h2.2]
theorem keyB_sep {y:UInt8}(h:sepB y=true):keyB y=true:=by
 unfold keyB;unfold sepB at h;rw[h]
 simp
theorem keyB_no {y:UInt8}(h:oddB y)(h2:sepB y=false):keyB y=false:=by
 rw[odd_iff] at h;unfold keyB;unfold sepB at h2;rw[h2];have h3:¬(97<=y.toNat∧y.toNat<=122):=by omega
 have h4:¬(48<=y.toNat∧y.toNat<=57):=by omega
 simp only[Bool.or_false,Bool.or_eq_false_iff,Bool.and_eq_false_iff,decide_eq_false_iff_not]
 omega
theorem u8_lit {c:UInt8}{n:Nat}(hn:n<256):(UInt8.ofNat n=c)↔c.toNat=n:=by
 constructor
 ·rintro rfl;simp;omega
 ·intro h;exact UInt8.toNat_inj.1 (by simp;omega)
theorem index_sep (c:UInt8):decide (0<=Lib.indexByte [45,95,46,47] c)=sepB c:=by
 have e:∀n:Nat,n<256->((UInt8.ofNat n==c)=decide (c.toNat=n)):=λn hn=>by
  by_cases h:UInt8.ofNat n=c
  ·rw [dT ((u8_lit hn).1 h)];simpa using h
  ·rw [dF (mt (u8_lit hn).2 h)];simpa using h
 have e1:=e 45 (by decide);have e2:=e 95 (by decide);have e3:=e 46 (by decide);have e4:=e 47 (by decide);unfold Lib.indexByte Lib.indexByte Lib.indexByte Lib.indexByte Lib.indexByte sepB;have f1:((45:UInt8)==c)=decide (c.toNat=45):=e1;have f2:((95:UInt8)==c)=decide (c.toNat=95):=e2;have f3:((46:UInt8)==c)=decide (c.toNat=46):=e3;have f4:((47:UInt8)==c)=decide (c.toNat=47):=e4;rw[f1,f2,f3,f4]
 by_cases h1:c.toNat=45
 ·simp [h1]
 by_cases h2:c.toNat=95
 ·simp [h2]
 by_cases h3:c.toNat=46
 ·simp [h3]
 by_cases h4:c.toNat=47
 ·simp [h4]
 simp[h1,h2,h3,h4]
theorem okKey_no {s:List UInt8}{k:Nat}(hk:k<s.length)(h:keyB s[k]=false):okKey s=false:=by
 unfold okKey;rw[Cn.all_no hk h]
 rfl
theorem sep_hi {c:UInt8}(h:128<=c.toNat):sepB c=false:=by
 unfold sepB;simp only[Bool.or_eq_false_iff,decide_eq_false_iff_not]
 omega
def Big (l:List Ent):Prop:=∀x∈l,x.1.length<=1000000∧Cn.big x.2
theorem ordered_yes {l:List Ent}(h1:∀i,∀h:i<l.length,okE l[i]=true)(h2:∀i,∀h:i+1<l.length,Op.bytesLess l[i].1 l[i+1].1=true):ordered l=true:=by
 unfold ordered rises;rw[Cn.all_yes h1,Cn.adj_yes h2]
 rfl
theorem ordered_no1 {l:List Ent}{i:Nat}(hi:i<l.length)(h:okE l[i]=false):ordered l=false:=by
 unfold ordered;rw[Cn.all_no hi h]
 rfl
theorem ordered_no2 {l:List Ent}{i j:Nat}(hi:i<l.length)(hj:j<l.length)(hij:i=j+1)(h:Op.bytesLess l[j].1 l[i].1=false):ordered l=false:=by
 unfold ordered rises;rw[Cn.adj_no hi hj hij h,Bool.and_false]
theorem okE_of {x:Ent}(h1:okKey x.1=true)(h2:Cn.valid x.2=true):okE x=true:=by unfold okE;rw[h1,h2];rfl
theorem okE_no1 {x:Ent}(h1:okKey x.1=false):okE x=false:=by unfold okE;rw[h1];rfl
theorem okE_no2 {x:Ent}(h1:Cn.valid x.2=false):okE x=false:=by unfold okE;rw[h1,Bool.and_false]
def smallE (x:Ent):Bool:=decide (x.1.length<=100)&&Cn.small x.2
def small (l:List Ent)(most:Int):Bool:=decide ((l.length:Int)<=most)&&l.all smallE
theorem small_iff {l:List Ent}{most:Int}(h:small l most=true):(l.length:Int)<=most∧∀x∈l,x.1.length<=100∧Cn.small x.2=true:=by
 unfold small at h;rw[Bool.and_eq_true,decide_eq_true_iff,List.all_eq_true] at h;refine ⟨h.1,λx hx=>?_⟩;have:=h.2 x hx;unfold smallE at this;rw[Bool.and_eq_true,decide_eq_true_iff] at this;exact this
theorem small_big {x:Cart}(h:Cn.small x=true):Cn.big x:=by
 obtain ⟨h1,h2,h3,h4⟩:=Cn.small_iff h;exact ⟨by omega,by omega,by omega,λy hy=>by have:=h4 y hy;omega⟩
end Go.Pn.Bt
end
section
namespace Go.Pn.Bt
open Go Go.Pn Go.Pn.Jn
theorem valid_ord {l:List Ent}(h:valid l=true):Ord l:=by
 unfold valid at h;rw[Bool.and_eq_true] at h;exact ord_iff.1 h.2
theorem valid_len {l:List Ent}(h:valid l=true):l.length<=1024:=by
 unfold valid at h;rw[Bool.and_eq_true,decide_eq_true_iff] at h;exact h.1
theorem valid_cart {l:List Ent}(h:valid l=true){x:Ent}(hx:x∈l):Cn.valid x.2=true:=good_iff.2 ((valid_ord h).ok x hx).2
theorem ord_cart {l:List Ent}(h:Ord l){x:Ent}(hx:x∈l):Cn.valid x.2=true:=good_iff.2 (h.ok x hx).2
theorem take_len (l:List Ent)(k:Nat):((l.take k).flatMap entB).length<=(l.flatMap entB).length:=by
 have e:l.flatMap entB=(l.take k).flatMap entB++(l.drop k).flatMap entB:=by rw[<-List.flatMap_append,List.take_append_drop]
 rw[e,List.length_append]
 omega
theorem mem_len {l:List Ent}{x:Ent}(hx:x∈l):(entB x).length<=(l.flatMap entB).length:=by
 induction l with
 |nil=>cases hx
 |cons a l ih=>
  rw[List.flatMap_cons,List.length_append];rcases List.mem_cons.1 hx with e|hx
  ·subst e;omega
  ·have:=ih hx;omega
theorem entB_len (x:Ent):(entB x).length=(Cn.num x.1.length).length+x.1.length+(Cn.bytes x.2).length:=by
 unfold entB Cn.strB;simp only[List.length_append]
theorem Big.sub {l l':List Ent}(h:Big l)(hs:∀x∈l',x∈l):Big l':=λx hx=>h x (hs x hx)
end Go.Pn.Bt
end
section
namespace Go.Pn.Bt
open Go Go.Pn Go.Pn.Jn Go.Pn.Cn
section
variable {p:List UInt8}{es:List Ent}{k k0 k1:Nat}{n:BitVec 64}
theorem no_res {es:List Ent}(h:No (manyQ okQ) (manyB entB) p 0):EntRes p es false:=.inr ⟨rfl,λl' hq _=>no_whole h l' hq⟩
theorem res_num (h:No (λq:BitVec 64=>q.toNat<=1024) (λq=>num q.toNat) p 0){es:List Ent}:EntRes p es false:=by
 refine .inr ⟨rfl,λl' _ hl e=>h (BitVec.ofNat 64 l'.length) (l'.flatMap entB) ?_ ?_⟩
 ·show (BitVec.ofNat 64 l'.length).toNat<=1024
  rw[BitVec.toNat_ofNat];omega
 ·show p.drop 0=num (BitVec.ofNat 64 l'.length).toNat++_
  rw[BitVec.toNat_ofNat,Nat.mod_eq_of_lt (by omega),List.drop_zero];exact e
theorem res_ent (hn:SegN n p 0 k0)(hs:Seg (es.flatMap entB) p k0 k)(hq:manyQ okQ es)(hj:es.length<n.toNat)(h:No okQ entB p k){x:List Ent}:EntRes p x false:=no_res (no_many2 hn pre_okQ hq hs hj h)
theorem res_end (hn:SegN n p 0 k0)(hs:Seg (es.flatMap entB) p k0 k)(hq:manyQ okQ es)(hj:es.length=n.toNat)(h:n.toNat<=1024):EntRes p es (decide (((p.length-k:Nat):Int)=0)):=by
 have hw:Seg (manyB entB es) p 0 k:=seg_many hn hs hj
 by_cases hk:k=p.length
 ·rw [dT (by omega)]
  exact .inl ⟨rfl,hq,by omega,seg_whole hw hk⟩
 ·have hle:=hw.2.2
  rw[dF (by omega)];refine .inr ⟨rfl,λl' hl' _ e=>hk ?_⟩;have e2:manyB entB es++p.drop k=manyB entB l'++[]:=by rw[<-seg_end hw,List.append_nil];exact e
  obtain ⟨_,q⟩:=pre_list pre_okQ es l' _ [] hq hl' e2;have:=congrArg List.length q;rw[List.length_drop,List.length_nil] at this
  omega
theorem lt_of_ofNat {j:Nat}(hj:j<=1024):(BitVec.ofNat 64 j<n)↔j<n.toNat:=by
 rw[BitVec.lt_def,BitVec.toNat_ofNat,Nat.mod_eq_of_lt (by omega)]
theorem ofNat_succ (j:Nat):BitVec.ofNat 64 j+1#64=BitVec.ofNat 64 (j+1):=by
 apply BitVec.eq_of_toNat_eq
 simp[BitVec.toNat_add]
end
def sumU (l:List UInt8):BitVec 32:=l.foldl (λs x=>(s<<<8)|||x.toBitVec.setWidth 32) 0#32
theorem sumU_snoc (l:List UInt8)(x:UInt8):sumU (l++[x])=(sumU l<<<8)|||x.toBitVec.setWidth 32:=by unfold sumU;rw[List.foldl_append];rfl
theorem or_byte (s:BitVec 32)(x:BitVec 8):((s<<<8)|||x.setWidth 32).toNat=s.toNat*256%4294967296+x.toNat:=by
 have hx:=x.isLt;have h2:(s<<<8)&&& x.setWidth 32=0#32:=by
  apply BitVec.eq_of_getLsbD_eq
  intro i hi;rw[BitVec.getLsbD_and,BitVec.getLsbD_shiftLeft,BitVec.getLsbD_setWidth]
  by_cases h8:i<8
  ·simp [h8]
  ·have:x.getLsbD i=false:=BitVec.getLsbD_of_ge _ _ (by omega)
   simp[this]
 rw[<-BitVec.add_eq_or_of_and_eq_zero _ _ h2];simp only[BitVec.toNat_add,BitVec.toNat_shiftLeft,BitVec.toNat_setWidth,Nat.shiftLeft_eq]
 omega
theorem sumU_four (a b c d:UInt8):(sumU [a,b,c,d]).toNat=((a.toNat*256+b.toNat)*256+c.toNat)*256+d.toNat:=by
 have ha:=a.toNat_lt;have hb:=b.toNat_lt;have hc:=c.toNat_lt;have hd:=d.toNat_lt;unfold sumU;simp only[List.foldl_cons,List.foldl_nil];rw[or_byte,or_byte,or_byte,or_byte];simp only[UInt8.toNat_toBitVec,BitVec.toNat_ofNat]
 omega
theorem sum4_nat (n:BitVec 32):sum4 n=[UInt8.ofNat (n.toNat/16777216%256),UInt8.ofNat (n.toNat/65536%256),UInt8.ofNat (n.toNat/256%256),UInt8.ofNat (n.toNat%256)]:=by
 have e:∀(x:BitVec 32) (k:Nat),UInt8.ofBitVec ((x>>>k).setWidth 8)=UInt8.ofNat (x.toNat/2^k%256):=λx k=>by
  apply UInt8.toNat_inj.1
  show ((x>>>k).setWidth 8).toNat=_;rw[BitVec.toNat_setWidth,BitVec.toNat_ushiftRight,Nat.shiftRight_eq_div_pow,UInt8.toNat_ofNat']
  omega
 have e0:UInt8.ofBitVec (n.setWidth 8)=UInt8.ofNat (n.toNat%256):=by
  apply UInt8.toNat_inj.1
  show (n.setWidth 8).toNat=_;rw[BitVec.toNat_setWidth,UInt8.toNat_ofNat']
  omega
 unfold sum4;rw[e,e,e,e0]
theorem sumU_sum4 (n:BitVec 32):sumU (sum4 n)=n:=by
 apply BitVec.eq_of_toNat_eq
 have hn:=n.isLt;rw[sum4_nat,sumU_four];simp only[UInt8.toNat_ofNat']
 omega
theorem sum4_sumU {l:List UInt8}(h:l.length=4):sum4 (sumU l)=l:=by
 match l,h with
 |[a,b,c,d],_=>
  have ha:=a.toNat_lt;have hb:=b.toNat_lt;have hc:=c.toNat_lt;have hd:=d.toNat_lt;rw[sum4_nat,sumU_four];simp only[List.cons.injEq,and_true];refine ⟨?_,?_,?_,?_⟩<;>(apply UInt8.toNat_inj.1;rw[UInt8.toNat_ofNat'];omega)
theorem sum_iff {p:List UInt8}(h:4<=p.length):sumU (p.drop (p.length-4))=sumOf (p.take (p.length-4))↔p=end4 (p.take (p.length-4)):=by
 have hl:(p.drop (p.length-4)).length=4:=by rw[List.length_drop];omega
 unfold end4
 constructor
 ·intro e
  rw[<-e,sum4_sumU hl];exact (List.take_append_drop _ _).symm
 ·intro e
  have e2:p.drop (p.length-4)=sum4 (sumOf (p.take (p.length-4))):=by
   have e3:=congrArg (List.drop (p.length-4)) e;rw[List.drop_left' (by rw[List.length_take];omega)] at e3;exact e3
  rw[e2,sumU_sum4]
end Go.Pn.Bt
end
section
namespace Go.Pn.Bt
open Go Go.Pn Go.Pn.Jn
theorem Big.snoc {l:List Ent}{x:Ent}(h:Big l)(hx:x.1.length<=1000000∧Cn.big x.2):Big (l++[x]):=λy hy=>by
 rcases List.mem_append.1 hy with q|q
 ·exact h y q
 ·rw [List.mem_singleton.1 q];exact hx
theorem dec_fin1 {p:List UInt8}{l:List Ent}{ok:Bool}(h:p=end4 (p.take (p.length-4)))(hr:EntRes (p.take (p.length-4)) l ok)(hb:(ok&&valid l)=false):DecRes p [] 12:=by
 have:=dec_body h hr.bodyR;rw[hb] at this;exact this
theorem dec_fin2 {p:List UInt8}{l:List Ent}{ok:Bool}(h:p=end4 (p.take (p.length-4)))(hr:EntRes (p.take (p.length-4)) l ok)(hb:(ok&&valid l)=true):DecRes p l 0:=by
 have:=dec_body h hr.bodyR;rw[hb] at this;exact this
theorem dec_ne {p:List UInt8}(h4:4<=p.length)(h:sumU (p.drop (p.length-4))≠sumOf (p.take (p.length-4))):DecRes p [] 12:=dec_sum λe=>h ((sum_iff h4).2 e)
end Go.Pn.Bt
end
section
namespace Go.Pn.Bt
open Go Go.Pn Go.Pn.Jn
section
variable {l:List Ent}{done:List (List Ent)}{k fr:Nat}
theorem cur_next (hk:k<l.length)(hf:fr<=k):(l.take (k+1)).drop fr=(l.take k).drop fr++[l[k]]:=by
 rw[List.take_succ_eq_append_getElem hk,List.drop_append_of_le_length (by rw[List.length_take];omega)]
theorem cur_new (hk:k<l.length):(l.take (k+1)).drop k=[l[k]]:=by
 rw[cur_next hk (Nat.le_refl _),List.drop_of_length_le (by rw[List.length_take];omega)]
 rfl
theorem cur_len (hk:k<=l.length):((l.take k).drop fr).length=k-fr:=by rw[List.length_drop,List.length_take];omega
theorem cur_ne (hk:k<=l.length)(hf:fr<k):(l.take k).drop fr≠[]:=λe=>by
 have:=congrArg List.length e;rw[cur_len hk] at this
 simp at this
 omega
theorem fits_iff (hk:k<l.length)(hf:fr<=k):fits ((l.take (k+1)).drop fr)↔k-fr+1<=1024∧(Cn.num (k-fr+1)).length+((((l.take k).drop fr).flatMap entB).length+(entB l[k]).length)+4<=65536:=by
 rw[cur_next hk hf];unfold fits;rw[body_snoc,List.length_append,cur_len (by omega)]
 rfl
theorem cur_size (hk:k<l.length)(hf:fr<=k):(((l.take (k+1)).drop fr).flatMap entB).length=(((l.take k).drop fr).flatMap entB).length+(entB l[k]).length:=by
 rw[cur_next hk hf,List.flatMap_append,List.length_append,List.flatMap_singleton]
theorem cur_size0 (hk:k<l.length):(((l.take (k+1)).drop k).flatMap entB).length=(entB l[k]).length:=by rw[cur_new hk,List.flatMap_singleton]
theorem Done.nextYes (hk:k<l.length)(hf:fr<=k)(h:Done l done ((l.take k).drop fr) (l.drop k))(hy:fr=k∨fits ((l.take (k+1)).drop fr)):Done l done ((l.take (k+1)).drop fr) (l.drop (k+1)):=by
 rw[List.drop_eq_getElem_cons hk] at h
 by_cases e:fr=k
 ·subst e
  rw[List.drop_of_length_le (by rw[List.length_take];omega)] at h;rw[cur_new hk];exact h.first
 ·have hy:=hy.resolve_left e
  rw[cur_next hk hf] at hy ⊢;exact h.yes (cur_ne (by omega) (by omega)) hy
theorem Done.nextNo (hk:k<l.length)(hf:fr<k)(h:Done l done ((l.take k).drop fr) (l.drop k))(hn:¬fits ((l.take (k+1)).drop fr)):Done l (done++[(l.take k).drop fr]) ((l.take (k+1)).drop k) (l.drop (k+1)):=by
 rw[List.drop_eq_getElem_cons hk] at h;rw[cur_new hk];rw[cur_next hk (by omega)] at hn;exact h.no (cur_ne (by omega) hf) hn
theorem Done.flush (hk:k<l.length)(hf:fr<k)(h:Done l done ((l.take k).drop fr) (l.drop k))(hn:¬fits ((l.take (k+1)).drop fr)):(l.take k).drop fr∈split l:=by
 refine h.cur_mem (cur_ne (by omega) hf) λx r e=>?_
 rw[List.drop_eq_getElem_cons hk] at e;cases e;rw[cur_next hk (by omega)] at hn;exact hn
theorem Done.last (hk:k=l.length)(hf:fr<k)(h:Done l done ((l.take k).drop fr) (l.drop k)):split l=done++[l.drop fr]∧l.drop fr∈split l:=by
 subst hk;rw[List.take_length,List.drop_length] at h;have e:split l=done++[l.drop fr]:=h.fin λq=>by
  have:=congrArg List.length q
  simp at this
  omega
 exact ⟨e,by rw[e];simp⟩
theorem Done.none (hk:k=l.length)(hf:fr=k)(h:Done l done ((l.take k).drop fr) (l.drop k)):split l=done:=by
 subst hf hk;rw[List.take_length,List.drop_length] at h;exact h.fin0
theorem split_len {g:List Ent}{b:Nat}(hb:∀x∈l,(entB x).length<=b)(h:g∈split l):(enc g).length<=max (b+5) 65536:=by
 rw[enc_len];rcases (split_good h).2 with q|q
 ·obtain ⟨x,rfl⟩:=List.length_eq_one_iff.1 q
  have:=hb x ((split_sub h).subset (.head _));rw[one_body]
  omega
 ·have:=q.2;omega
end
end Go.Pn.Bt
end
section
namespace Go.Pn.Bt
open Go Go.Pn Go.Pn.Jn
def Mid (n:Nat)(l:List Ent):Prop:=∀x∈l,x.2.1.1.length<=n∧x.2.1.2.length<=n∧x.2.2.length<=200000∧∀y∈x.2.2,y.1.length<=1000000∧y.2.length<=400000
theorem Mid.sub {n:Nat}{l l':List Ent}(h:Mid n l)(hs:∀x∈l',x∈l):Mid n l':=λx hx=>h x (hs x hx)
theorem Mid.big {n:Nat}{l:List Ent}(h:Mid n l)(hn:n<=1000000){x:Ent}(hx:x∈l):Cn.big x.2:=by
 obtain ⟨h1,h2,h3,h4⟩:=h x hx;exact ⟨by omega,by omega,by omega,λy hy=>by have:=h4 y hy;omega⟩
theorem Mid.tall {x:Ent}(h:∀y∈x.2.2,y.1.length<=1000000∧y.2.length<=400000):∀y∈x.2.2,y.1.length<=1000000∧y.2.length<=1000000:=λy hy=>by have:=h y hy;omega
theorem join_sizes (a b:Cart):(join a b).1.1.length<=a.1.1.length+b.1.1.length+(a.1.2.length+b.1.2.length)∧(join a b).1.2.length<=a.1.2.length+b.1.2.length∧(join a b).2.length<=a.2.length+b.2.length:=⟨(cunion_len a.1 b.1).1,(cunion_len a.1 b.1).2,jitems_len a b⟩
theorem join_names {a b:Cart}(ga:GoodC a)(gb:GoodC b):∀y∈(join a b).2,y.1.length<=64:=λy hy=>((Cn.validQ (good_iff.2 (join_good ga gb))).2 y hy).1
theorem join_big {x y:Ent}{n:Nat}(hx:x.2.1.1.length<=n∧x.2.1.2.length<=n∧x.2.2.length<=200000∧∀y∈x.2.2,y.1.length<=1000000∧y.2.length<=400000)(hy:y.2.1.1.length<=n∧y.2.1.2.length<=n∧y.2.2.length<=200000∧∀z∈y.2.2,z.1.length<=1000000∧z.2.length<=400000)(hn:n<=100000)(gx:GoodC x.2)(gy:GoodC y.2):Cn.big (join x.2 y.2):=by
 obtain ⟨h1,h2,h3⟩:=join_sizes x.2 y.2;have h4:=join_marks (λz hz=>(hx.2.2.2 z hz).2) (λz hz=>(hy.2.2.2 z hz).2);have h5:=join_names gx gy;exact ⟨by omega,by omega,by omega,λz hz=>by have:=h4 z hz;have:=h5 z hz;omega⟩
section
variable {x y:Ent}{la lb:List Ent}
theorem mrg_a (h:BL x.1 y.1):merge (x::la) (y::lb)=x::merge la (y::lb):=merge_first (.inr ⟨y,lb,rfl,h⟩)
theorem mrg_b (h:BL y.1 x.1):merge (x::la) (y::lb)=y::merge (x::la) lb:=merge_second (.inr ⟨x,la,rfl,h⟩)
theorem mrg_ab (h:x.1=y.1):merge (x::la) (y::lb)=(x.1,join x.2 y.2)::merge la lb:=merge_both (by rw[h];exact bl_irrefl _) (by rw[h];exact bl_irrefl _)
theorem mrg_a0:merge (x::la) []=x::merge la []:=merge_first (.inl rfl)
theorem mrg_b0:merge [] (y::lb)=y::merge [] lb:=merge_second (.inl rfl)
end
end Go.Pn.Bt
end
section
namespace Go.Pn
open Go.ChangeShapes Go.WideShapes Go.ChangeAt Go.RowKit
section
variable {P:Program}{W:World}{α β γ:Type}{E:Enc α}{E':Enc β}{E'':Enc γ}{Q:α->Prop}{Q':β->Prop}{Q'':γ->Prop}{t e:TypeId}
theorem Opens.struct3 {f0 f1 f2:Field}(ht:P.underlying t=some (.struct #[f0,f1,f2]))(h0:Opens P W E Q f0.type)(h1:Opens P W E' Q' f1.type)(h2:Opens P W E'' Q'' f2.type)(o0:f0.offset=0)(o1:f1.offset=E.sz)(o2:f2.offset=E.sz+E'.sz)(hc:P.cellsOf t=E.sz+(E'.sz+E''.sz)):
 Opens P W (prE E (prE E' E'')) (λx=>Q x.1∧Q' x.2.1∧Q'' x.2.2) t:=by
 refine ⟨hc,λ{H enc fuel cs x} hx=>?_⟩;obtain ⟨xs,n,_,_,hlen,hxl,hf⟩:=DataW.trod_struct ht hx;have g0:=hf 0 f0 rfl;have g1:=hf 1 f1 rfl;have g2:=hf 2 f2 rfl;have hx2:xs.length=3:=hxl;rw[List.getElem?_eq_getElem (by omega)] at g0 g1 g2;rw[o0,List.drop_zero,h0.sz] at g0;rw[o1,h1.sz] at g1;rw[o2,h2.sz] at g2;obtain ⟨d0,a1,a2⟩:=h0.op g0;obtain ⟨d1,b1,b2⟩:=h1.op g1;obtain ⟨d2,c1,c2⟩:=h2.op g2;refine ⟨(d0,d1,d2),⟨_,_,?_,a1,⟨_,_,rfl,b1,c1⟩⟩,a2,b2,c2⟩;rw[<-List.drop_drop,List.take_of_length_le (l:=(cs.drop E.sz).drop E'.sz) (by simp;omega),List.take_append_drop,List.take_append_drop]
theorem Opens.marks {m:TypeId}{f0 f1 m0 m1 m2:Field}(htm:P.underlying m=some (.struct #[m0,m1,m2]))(htd:P.underlying m0.type=some (.struct #[f0,f1]))(u0:P.underlying f0.type=some (.int .i64))(u1:P.underlying f1.type=some (.int .i64))(v1:P.underlying m1.type=some (.int .i64))(v2:P.underlying m2.type=some (.int .u64))
 (c0:P.cellsOf f0.type=1)(c1:P.cellsOf f1.type=1)(cd:P.cellsOf m0.type=2)(d1:P.cellsOf m1.type=1)(d2:P.cellsOf m2.type=1)(cm:P.cellsOf m=4)(o0:f0.offset=0)(o1:f1.offset=1)(p0:m0.offset=0)(p1:m1.offset=2)(p2:m2.offset=3):Opens P W markF.enc (λ_=>True) m:=
 (Opens.struct3 htm (Opens.struct2 htd (Opens.int u0 c0) (Opens.int u1 c1) o0 o1 cd) (Opens.int v1 d1) (Opens.int v2 d2) p0 p1 p2 cm).imp rfl λcs d h hq=>by
   obtain ⟨_,_,rfl,⟨a,b,rfl,ha,hb⟩,c',e',rfl,hx,hy⟩:=h;obtain ⟨_,_,hw⟩:=hq;simp only[Lit.wf,Bool.and_eq_true,decide_eq_true_eq] at hw;have hlo:(0:Int)<=d.2.2:=hw.1;have hhi:d.2.2<=18446744073709551615:=hw.2;refine ⟨((d.1.1,d.1.2),d.2.1,BitVec.ofInt 64 d.2.2),?_,trivial⟩;have e4:((BitVec.ofInt 64 d.2.2).toNat:Int)=d.2.2:=by
    rw[BitVec.toNat_ofInt]
    omega
   rw[show a=[.int .i64 d.1.1] from ha,show b=[.int .i64 d.1.2] from hb];show _=[Value.int .i64 d.1.1,.int .i64 d.1.2,.int .i64 d.2.1,.int .u64 ((BitVec.ofInt 64 d.2.2).toNat:Int)];rw[e4];rw[show c'=[.int .i64 d.2.1] from hx,show e'=[.int .u64 d.2.2] from hy]
   rfl
theorem Opens.item {i m:TypeId}{f0 f1:Field}(hm:Opens P W markF.enc (λ_=>True) m)(hti:P.underlying i=some (.struct #[f0,f1]))(hs:P.underlying f0.type=some .string)(hsl:P.underlying f1.type=some (.slice m))(c0:P.cellsOf f0.type=1)(c1:P.cellsOf f1.type=1)(ci:P.cellsOf i=2)(o0:f0.offset=0)(o1:f1.offset=1):Opens P W itemE (λ_=>True) i:=
 (Opens.struct2 hti (Opens.str hs c0) (hm.slice hsl c1 (by decide)) o0 o1 ci).imp rfl λcs d h _=>by
   obtain ⟨a,b,rfl,ha,v,rfl,hv⟩:=h;refine ⟨(d.1,d.2),⟨v,?_,hv⟩,trivial⟩;rw[show a=[Go.Pn.str d.1] from ha]
   rfl
end
end Go.Pn
end
section
namespace Go.Pn
abbrev CartT:=(List Dt.Dot×List Dt.Dot)×List ItemT
abbrev EntT:=List UInt8×CartT
abbrev EntR:=List UInt8×((Raw×Raw)×Raw)
def cartE:Enc CartT:=prE (prE (slE Dt.dotF.enc) (slE Dt.dotF.enc)) (slE itemE)
def entE:Enc EntT:=prE strF.enc cartE
def entF:Flat EntR:=⟨4,λx=>[str x.1,slv x.2.1.1,slv x.2.1.2,slv x.2.2],λ_=>rfl,by simp[Value.oneCell',str,slv],by decide⟩
def CartAt (w:World)(F:Nat->Prop)(r:(Raw×Raw)×Raw)(c:CartT):Prop:=Sl Dt.dotF.enc w F (slv r.1.1) c.1.1∧Sl Dt.dotF.enc w F (slv r.1.2) c.1.2∧Sl itemE w F (slv r.2) c.2
section
variable {w w':World}{F F' M:Nat->Prop}{r:(Raw×Raw)×Raw}{c:CartT}
theorem CartAt.kM (h:CartAt w F r c)(e:Ext M w w')(hM:∀k,F k->¬M k):CartAt w' F r c:=⟨h.1.kM e hM,h.2.1.kM e hM,h.2.2.kM e hM⟩
theorem CartAt.keepA (h:CartAt w F r c)(e:Ext M w w')(hM:∀k,F k->¬M k:=by intro k hk h;first|(have q:=hF k hk;(try dsimp only at h);omega)|(have q:=hF2 k hk;(try dsimp only at h);omega)|(have q:=hFb k hk;(try dsimp only at h);omega)|((try dsimp only at hk);(try dsimp only at h);omega)):CartAt w' F r c:=CartAt.kM h e hM
theorem CartAt.L (h:CartAt w F r c)(e:Le w w'):CartAt w' F r c:=h.kM e λ_ _=>not_false
theorem CartAt.weak (h:CartAt w F r c)(hF:∀k,F k->F' k):CartAt w F' r c:=⟨h.1.weak hF,h.2.1.weak hF,h.2.2.weak hF⟩
theorem CartAt.weakA (h:CartAt w F r c)(hF:∀k,F k->F' k:=by intro q hq;(try dsimp only at hq);(try dsimp only);omega):CartAt w F' r c:=CartAt.weak h hF
end
def EntL (w:World)(F:Nat->Prop)(raw:List EntR)(l:List EntT):Prop:=raw.length=l.length∧∀i,∀h:i<raw.length,∀h':i<l.length,raw[i].1=l[i].1∧CartAt w F raw[i].2 l[i].2
section
variable {w w':World}{F F' M:Nat->Prop}{raw:List EntR}{l:List EntT}{v:Value}
theorem EntL.nil:EntL w F [] []:=⟨rfl,λi h=>by simp at h⟩
theorem EntL.at {k:Nat}(h:EntL w F raw l)(hk:k<l.length):∃(h9:k<raw.length) (r:EntR) (x:EntT),r=raw[k]∧x=l[k]∧r.1=x.1∧CartAt w F r.2 x.2:=⟨by have:=h.1;omega,raw[k]'(by have:=h.1;omega),l[k],rfl,rfl,h.2 k (by have:=h.1;omega) hk⟩
theorem EntL.kM (h:EntL w F raw l)(e:Ext M w w')(hM:∀k,F k->¬M k):EntL w' F raw l:=⟨h.1,λi h1 h2=>⟨(h.2 i h1 h2).1,(h.2 i h1 h2).2.kM e hM⟩⟩
theorem EntL.keepA (h:EntL w F raw l)(e:Ext M w w')(hM:∀k,F k->¬M k:=by intro k hk h;first|(have q:=hF k hk;(try dsimp only at h);omega)|(have q:=hF2 k hk;(try dsimp only at h);omega)|(have q:=hFb k hk;(try dsimp only at h);omega)|((try dsimp only at hk);(try dsimp only at h);omega)):EntL w' F raw l:=EntL.kM h e hM
theorem EntL.L (h:EntL w F raw l)(e:Le w w'):EntL w' F raw l:=h.kM e λ_ _=>not_false
theorem EntL.weak (h:EntL w F raw l)(hF:∀k,F k->F' k):EntL w F' raw l:=⟨h.1,λi h1 h2=>⟨(h.2 i h1 h2).1,(h.2 i h1 h2).2.weak hF⟩⟩
theorem EntL.weakA (h:EntL w F raw l)(hF:∀k,F k->F' k:=by intro q hq;(try dsimp only at hq);(try dsimp only);omega):EntL w F' raw l:=EntL.weak h hF
theorem EntL.snoc {a:EntR}{x:EntT}(h:EntL w F raw l)(hn:a.1=x.1)(hm:CartAt w F a.2 x.2):EntL w F (raw++[a]) (l++[x]):=by
 refine ⟨by simp[h.1],λi h1 h2=>?_⟩;have hl:=h.1;simp only[List.length_append,List.length_cons,List.length_nil] at h1
 by_cases hi:i<raw.length
 ·rw [List.getElem_append_left hi,List.getElem_append_left (by omega)]
  exact h.2 i hi (by omega)
 ·have e1:i=raw.length:=by omega
  subst e1;rw[List.getElem_append_right (by omega),List.getElem_append_right (by omega)];simp only[Nat.sub_self,hl,List.getElem_cons_zero];exact ⟨hn,hm⟩
end
end Go.Pn
end
section
namespace Go.Pn
def CartF (td ti tm:TypeId)(w:World)(F:Nat->Prop)(r:(Raw×Raw)×Raw)(c:CartT):Prop:=Fre Dt.dotF td w F (slv r.1.1) c.1.1∧Fre Dt.dotF td w F (slv r.1.2) c.1.2∧SlI ti tm w F (slv r.2) c.2
section
variable {td ti tm te:TypeId}{w w':World}{F F' M G G':Nat->Prop}{r:(Raw×Raw)×Raw}{c:CartT}
theorem CartF.kM (h:CartF td ti tm w F r c)(e:Ext M w w')(hM:∀k,F k->¬M k):CartF td ti tm w' F r c:=⟨h.1.kM e hM,h.2.1.kM e hM,h.2.2.kM e hM⟩
theorem CartF.keepA (h:CartF td ti tm w F r c)(e:Ext M w w')(hM:∀k,F k->¬M k:=by intro k hk h;first|(have q:=hF k hk;(try dsimp only at h);omega)|(have q:=hF2 k hk;(try dsimp only at h);omega)|(have q:=hFb k hk;(try dsimp only at h);omega)|((try dsimp only at hk);(try dsimp only at h);omega)):CartF td ti tm w' F r c:=CartF.kM h e hM
theorem CartF.L (h:CartF td ti tm w F r c)(e:Le w w'):CartF td ti tm w' F r c:=h.kM e λ_ _=>not_false
theorem CartF.weak (h:CartF td ti tm w F r c)(hF:∀k,F k->F' k):CartF td ti tm w F' r c:=⟨h.1.weak hF,h.2.1.weak hF,h.2.2.weak hF⟩
theorem CartF.weakA (h:CartF td ti tm w F r c)(hF:∀k,F k->F' k:=by intro q hq;(try dsimp only at hq);(try dsimp only);omega):CartF td ti tm w F' r c:=CartF.weak h hF
theorem CartF.cart (h:CartF td ti tm w F r c):CartAt w F r c:=⟨h.1.sl,h.2.1.sl,h.2.2.sl⟩
def EntsD (td ti tm:TypeId)(w:World)(G:Nat->Prop)(lo hi:Nat)(raw:List EntR)(l:List EntT):Prop:=
 raw.length=l.length∧∃b:Nat->Nat,(lo<=b 0∧b l.length<=hi)∧(∀i,b i<=b (i+1))∧∀i,∀h:i<raw.length,∀h':i<l.length,raw[i].1=l[i].1∧CartF td ti tm w (λj=>G j∧b i<=j∧j<b (i+1)) raw[i].2 l[i].2
variable {raw:List EntR}{l:List EntT}{lo hi:Nat}{v:Value}
theorem mono_of {b:Nat->Nat}(h:∀i,b i<=b (i+1)){i j:Nat}(hij:i<=j):b i<=b j:=by
 induction hij with
 |refl=>exact Nat.le_refl _
 |step _ ih=>exact Nat.le_trans ih (h _)
theorem EntsD.nil (h:lo<=hi):EntsD td ti tm w G lo hi [] []:=⟨rfl,λ_=>lo,⟨Nat.le_refl _,h⟩,λ_=>Nat.le_refl _,λi h=>by simp at h⟩
theorem EntsD.kM (h:EntsD td ti tm w G lo hi raw l)(e:Ext M w w')(hM:∀k,G k->lo<=k->k<hi->¬M k):EntsD td ti tm w' G lo hi raw l:=by
 obtain ⟨h0,b,⟨h1,h2⟩,h3,h4⟩:=h;refine ⟨h0,b,⟨h1,h2⟩,h3,λi k1 k2=>⟨(h4 i k1 k2).1,(h4 i k1 k2).2.kM e λk hk=>hM k hk.1 ?_ ?_⟩⟩
 ·have:=mono_of h3 (Nat.zero_le i);omega
 ·have:=mono_of h3 (show i+1<=l.length by omega);omega
theorem EntsD.keepA (h:EntsD td ti tm w G lo hi raw l)(e:Ext M w w')(hM:∀k,G k->lo<=k->k<hi->¬M k:=by intro k hk h;first|(have q:=hF k hk;(try dsimp only at h);omega)|(have q:=hF2 k hk;(try dsimp only at h);omega)|(have q:=hFb k hk;(try dsimp only at h);omega)|((try dsimp only at hk);(try dsimp only at h);omega)):EntsD td ti tm w' G lo hi raw l:=EntsD.kM h e hM
theorem EntsD.L (h:EntsD td ti tm w G lo hi raw l)(e:Le w w'):EntsD td ti tm w' G lo hi raw l:=h.kM e λ_ _ _ _=>not_false
theorem EntsD.weak (h:EntsD td ti tm w G lo hi raw l)(hG:∀k,lo<=k->k<hi->G k->G' k):EntsD td ti tm w G' lo hi raw l:=by
 obtain ⟨h0,b,⟨h1,h2⟩,h3,h4⟩:=h;refine ⟨h0,b,⟨h1,h2⟩,h3,λi k1 k2=>⟨(h4 i k1 k2).1,(h4 i k1 k2).2.weak λk hk=>⟨hG k ?_ ?_ hk.1,hk.2⟩⟩⟩
 ·have:=mono_of h3 (Nat.zero_le i);omega
 ·have:=mono_of h3 (show i+1<=l.length by omega);omega
theorem EntsD.wide {lo' hi':Nat}(h:EntsD td ti tm w G lo hi raw l)(h1:lo'<=lo)(h2:hi<=hi'):EntsD td ti tm w G lo' hi' raw l:=by
 obtain ⟨h0,b,⟨k1,k2⟩,h3,h4⟩:=h;exact ⟨h0,b,⟨Nat.le_trans h1 k1,Nat.le_trans k2 h2⟩,h3,h4⟩
theorem EntsD.snoc {a:EntR}{x:EntT}{hi':Nat}(h:EntsD td ti tm w G lo hi raw l)(hh:hi<=hi')(hn:a.1=x.1)(hm:CartF td ti tm w (λj=>G j∧hi<=j∧j<hi') a.2 x.2):EntsD td ti tm w G lo hi' (raw++[a]) (l++[x]):=by
 obtain ⟨h0,b,⟨k1,k2⟩,h3,h4⟩:=h;refine ⟨by simp[h0],λi=>if i<l.length+1 then b i else hi',⟨?_,?_⟩,λi=>?_,λi h1 h2=>?_⟩
 ·show lo<=if 0<l.length+1 then b 0 else hi'
  rw[if_pos (by omega)];exact k1
 ·show (if (l++[x]).length<l.length+1 then _ else _)<=_
  rw[if_neg (by simp)];exact Nat.le_refl _
 ·show (if i<l.length+1 then b i else hi')<=if i+1<l.length+1 then b (i+1) else hi'
  by_cases hi1:i+1<l.length+1
  ·rw [if_pos (by omega),if_pos hi1];exact h3 i
  ·rw [if_neg hi1]
   by_cases hi2:i<l.length+1
   ·rw [if_pos hi2]
    have:i=l.length:=by omega
    subst this
    omega
   ·rw [if_neg hi2];exact Nat.le_refl _
 ·simp only[List.length_append,List.length_cons,List.length_nil] at h1 h2
  by_cases hi1:i<raw.length
  ·rw [List.getElem_append_left hi1,List.getElem_append_left (by omega)]
   refine ⟨(h4 i hi1 (by omega)).1,(h4 i hi1 (by omega)).2.weak λk hk=>?_⟩;show G k∧(if i<l.length+1 then b i else hi')<=k∧k<if i+1<l.length+1 then b (i+1) else hi';rw[if_pos (by omega),if_pos (by omega)];exact hk
  ·have e1:i=raw.length:=by omega
   subst e1;rw[List.getElem_append_right (by omega),List.getElem_append_right (by omega)];simp only[Nat.sub_self,h0,List.getElem_cons_zero];refine ⟨hn,hm.weak λk hk=>?_⟩;show G k∧(if l.length<l.length+1 then b l.length else hi')<=k∧k<if l.length+1<l.length+1 then b (l.length+1) else hi';rw[if_pos (by omega),if_neg (by omega)];exact ⟨hk.1,by omega,hk.2.2⟩
theorem EntsD.ents (h:EntsD td ti tm w G lo hi raw l):EntL w (λj=>G j∧lo<=j∧j<hi) raw l:=by
 obtain ⟨h0,b,⟨k1,k2⟩,h3,h4⟩:=h;refine ⟨h0,λi h1 h2=>⟨(h4 i h1 h2).1,((h4 i h1 h2).2.cart).weak λk hk=>⟨hk.1,?_,?_⟩⟩⟩
 ·have:=mono_of h3 (Nat.zero_le i);omega
 ·have:=mono_of h3 (show i+1<=l.length by omega);omega
def SlE (te td ti tm:TypeId)(w:World)(lo hi:Nat)(v:Value)(l:List EntT):Prop:=∃raw,Fre entF te w (λj=>lo<=j∧j<hi) v raw∧EntsD td ti tm w (λj=>¬bk v j) lo hi raw l
theorem SlE.nil (te td ti tm:TypeId)(w:World){lo hi:Nat}(h:lo<=hi):SlE te td ti tm w lo hi (.slice none 0 0) []:=⟨[],Fre.nil _ _ _ _,EntsD.nil h⟩
theorem SlE.kM (h:SlE te td ti tm w lo hi v l)(e:Ext M w w')(hM:∀k,lo<=k->k<hi->¬M k):SlE te td ti tm w' lo hi v l:=by
 obtain ⟨raw,h1,h2⟩:=h;exact ⟨raw,h1.kM e λk hk=>hM k hk.1 hk.2,h2.kM e λk _=>hM k⟩
theorem SlE.keepA (h:SlE te td ti tm w lo hi v l)(e:Ext M w w')(hM:∀k,lo<=k->k<hi->¬M k:=by intro k hk h;first|(have q:=hF k hk;(try dsimp only at h);omega)|(have q:=hF2 k hk;(try dsimp only at h);omega)|(have q:=hFb k hk;(try dsimp only at h);omega)|((try dsimp only at hk);(try dsimp only at h);omega)):SlE te td ti tm w' lo hi v l:=SlE.kM h e hM
theorem SlE.L (h:SlE te td ti tm w lo hi v l)(e:Le w w'):SlE te td ti tm w' lo hi v l:=h.kM e λ_ _ _=>not_false
theorem SlE.wide {lo' hi':Nat}(h:SlE te td ti tm w lo hi v l)(h1:lo'<=lo)(h2:hi<=hi'):SlE te td ti tm w lo' hi' v l:=by
 obtain ⟨raw,k1,k2⟩:=h;exact ⟨raw,k1.weak λk hk=>⟨by omega,by omega⟩,k2.wide h1 h2⟩
theorem EntL.append {raw':List EntR}{l':List EntT}(h:EntL w F raw l)(h':EntL w F raw' l'):EntL w F (raw++raw') (l++l'):=by
 refine ⟨by rw[List.length_append,List.length_append,h.1,h'.1],λi h1 h2=>?_⟩;have e0:=h.1;simp only[List.length_append] at h1 h2
 by_cases hi:i<raw.length
 ·rw [List.getElem_append_left hi,List.getElem_append_left (by omega)];exact h.2 i hi (by omega)
 ·rw [List.getElem_append_right (by omega),List.getElem_append_right (by omega)]
  have:=h'.2 (i-raw.length) (by omega) (by rw[<-h'.1];omega);simp only[e0] at this ⊢;exact this
end
end Go.Pn
end
section
namespace Go.Pn
section
variable {P:Program}{n:Nat}{N:Val->World->Prop}{X:Nat->Val->World->Prop}{R:Val->World->Prop}{Z:List PanicEntry->World->Prop}{f:Val}{w:World}{c:Code}
theorem C.scope (h:C P n c N X R Z f w):C P n (.scope c) N X R Z f w:=by
 refine wp_scope_straight (wp_mono h ?_);intro e a w he;cases e with
 |normal=>exact he
 |exit i=>exact he
 |goto l=>exact he
 |ret=>exact he
 |panic ch=>exact he
 |outgrown=>exact he
theorem C.label {l:Nat}(h:N f w):C P n (.label l) N X R Z f w:=wp_label ⟨f,rfl,h⟩
end
section
variable
 {d:Nat}{x y:Operand}{t t' ty:TypeId}{pos:String}{after:Array Edge}{a b:Int}{k:IntKind}
theorem O.leqK (hx:ev n f x=.int k a)(hy:ev n f y=.int k b)(h:O P n ops rest N Z (upd f d (.bool (decide (a<=b)))) w):
 O P n ops (ZO d (.binOp .leq t x y t') ty pos after::rest) N Z f w:=
 O.val rfl rfl (by simp[execOp,hx,hy,eqGuard,binOp,Op.intCmp]) h
theorem O.eqlK (hx:ev n f x=.int k a)(hy:ev n f y=.int k b)(h:O P n ops rest N Z (upd f d (.bool (decide (a=b)))) w):
 O P n ops (ZO d (.binOp .eql t x y t') ty pos after::rest) N Z f w:=
 O.val rfl rfl (by
  have e:(a==b)=decide (a=b):=by by_cases h:a=b<;>simp[h]
  simp[execOp,hx,hy,eqGuard,binOp,Op.intCmp,e]) h
theorem O.convBK {c:BitVec 8}{k:IntKind}(ht:P.underlying t=some (.int k))(ht':P.underlying t'=some (.int .i32))(hx:ev n f x=.int .u8 (c.toNat:Int))
 (h:O P n ops rest N Z (upd f d (.int .i32 (c.toNat:Int))) w):
 O P n ops (ZO d (.convert t t' x) ty pos after::rest) N Z f w:=
 O.val rfl rfl (by
  have hc:=c.isLt;have e:IntKind.i32.wrap (c.toNat:Int)=(c.toNat:Int):=by simp[IntKind.wrap,IntKind.bits,IntKind.signed];omega
  simp[execOp,hx,convert,run_underlying ht,run_underlying ht',Conv.intToInt,e]) h
theorem O.convKS {l:List UInt8}(ht:P.underlying t=some (.int k))(ht':P.underlying t'=some .string)(hx:ev n f x=.int k a)(hl:Utf8.encode a=⟨l.toArray⟩)
 (h:O P n ops rest N Z (upd f d (str l)) w):
 O P n ops (ZO d (.convert t t' x) ty pos after::rest) N Z f w:=
 O.val rfl rfl (by simp[execOp,hx,convert,run_underlying ht,run_underlying ht',Conv.intToString,hl,str]) h
end
def two (c:Nat):List UInt8:=[UInt8.ofNat (192+c/64),UInt8.ofNat (128+c%64)]
theorem encode_two {c:Nat}(h1:128<=c)(h2:c<256):Utf8.encode (c:Int)=⟨(two c).toArray⟩:=by
 have hv:Utf8.valid (c:Int)=true:=by unfold Utf8.valid;simp;omega
 unfold Utf8.encode;rw[hv];simp only[if_true,Int.toNat_natCast];rw[if_neg (by omega),if_pos (by omega)]
 rfl
section
variable {α:Type}{G:Flat α}{P:Program}{n:Nat}{ops rest:List Oper}{N:Val->World->Prop}{Z:List PanicEntry->World->Prop}{f:Val}{w:World}
 {d:Nat}{x:Operand}{t tr:TypeId}{pos:String}{after:Array Edge}
theorem O.loadPart {F:Nat->Prop}{a:Addr}{z:α}{off s:Nat}(hag:∀w,(isAgg t).run P w=.ok true w)(hs:∀w,(sizeOf t).run P w=.ok s w)(hle:off+s<=G.sz)(hx:ev n f x=.pointer (some (a.add off)))(ha:At G.enc w F a z)
 (h:O P n ops rest N Z (upd f d (.agg (((G.e z).drop off).take s).toArray)) w):O P n ops (ZO d (.load t x) tr pos after::rest) N Z f w:=by
 refine O.val rfl rfl ?_ h;obtain ⟨cs,hr,hc⟩:=ha.cellAt;have e:cs=G.e z:=hr;subst e;have hl:(((G.e z).drop off).take s).length=s:=by simp[G.len];omega
 have hadd:∀j,(a.add off).add j=a.add (off+j):=λj=>by
  obtain ⟨b,o,cur,ty,fr,rfl,_⟩:=ha;rw[Addr.add_none,Addr.add_none,Addr.add_none,Nat.add_assoc]
 have h5:=run_loadCells_list (P:=P) w (a.add off) (((G.e z).drop off).take s) λj v hj=>by
  rw[List.getElem?_take] at hj
  split at hj
  ·rw [List.getElem?_drop] at hj;rw[hadd];exact hc _ _ hj
  ·cases hj
 rw[hl] at h5;have h3:execOp (ev n f) (ZO d (.load t x) tr pos after)=(do pure (.value (<-Instr.loadAt t (ev n f x)))):=rfl;rw[h3,Sem.run_bind,hx];have h4:(Instr.loadAt t (.pointer (some (a.add off)))).run P w=.ok (.agg (((G.e z).drop off).take s).toArray) w:=by
  simp[Instr.loadAt,Instr.sureAddr,loadVar,hag,hs,h5]
 rw[h4]
 rfl
end
end Go.Pn
end
section
namespace Go.Pn
theorem SlE.raws {te td ti tm:TypeId}{w:World}{lo hi:Nat}{v:Value}{l:List EntT}(h:SlE te td ti tm w lo hi v l):∃raw,Sl entF.enc w (λj=>lo<=j∧j<hi) v raw∧EntL w (λj=>lo<=j∧j<hi) raw l:=by
 obtain ⟨raw,h1,h2⟩:=h;exact ⟨raw,h1.sl,h2.ents.weak λ_ hk=>hk.2⟩
theorem EntL.sub {w:World}{F:Nat->Prop}{raw:List EntR}{l:List EntT}(h:EntL w F raw l)(i j:Nat):EntL w F ((raw.take j).drop i) ((l.take j).drop i):=by
 refine ⟨by rw[List.length_drop,List.length_drop,List.length_take,List.length_take,h.1],λk h1 h2=>?_⟩;rw[List.getElem_drop,List.getElem_drop,List.getElem_take,List.getElem_take];exact h.2 _ _ _
theorem EntL.tail {w:World}{F:Nat->Prop}{a:EntR}{x:EntT}{raw:List EntR}{l:List EntT}(h:EntL w F (a::raw) (x::l)):EntL w F raw l:=
 ⟨by simpa using h.1,λi h1 h2=>h.2 (i+1) (by simpa using h1) (by simpa using h2)⟩
theorem EntL.head {w:World}{F:Nat->Prop}{a:EntR}{x:EntT}{raw:List EntR}{l:List EntT}(h:EntL w F (a::raw) (x::l)):a.1=x.1∧CartAt w F a.2 x.2:=h.2 0 (by simp) (by simp)
theorem EntL.drop {w:World}{F:Nat->Prop}{raw:List EntR}{l:List EntT}(h:EntL w F raw l)(i:Nat):EntL w F (raw.drop i) (l.drop i):=by
 refine ⟨by rw[List.length_drop,List.length_drop,h.1],λk h1 h2=>?_⟩;rw[List.getElem_drop,List.getElem_drop];exact h.2 _ _ _
def slF:Flat Raw:=⟨1,λr=>[slv r],λ_=>rfl,by simp[Value.oneCell',slv],by decide⟩
def SlsL {α:Type}(E:Enc α)(w:World)(F:Nat->Prop)(ro:List Raw)(xs:List (List α)):Prop:=ro.length=xs.length∧∀i,∀h:i<ro.length,∀h':i<xs.length,Sl E w F (slv ro[i]) xs[i]
section
variable {α:Type}{E:Enc α}{w w':World}{F F' M:Nat->Prop}{ro:List Raw}{xs:List (List α)}{v:Value}
theorem SlsL.nil:SlsL E w F [] []:=⟨rfl,λi h=>by simp at h⟩
theorem SlsL.kM (h:SlsL E w F ro xs)(e:Ext M w w')(hM:∀k,F k->¬M k):SlsL E w' F ro xs:=⟨h.1,λi h1 h2=>(h.2 i h1 h2).kM e hM⟩
theorem SlsL.keepA (h:SlsL E w F ro xs)(e:Ext M w w')(hM:∀k,F k->¬M k:=by intro k hk h;first|(have q:=hF k hk;(try dsimp only at h);omega)|(have q:=hF2 k hk;(try dsimp only at h);omega)|(have q:=hFb k hk;(try dsimp only at h);omega)|((try dsimp only at hk);(try dsimp only at h);omega)):SlsL E w' F ro xs:=SlsL.kM h e hM
theorem SlsL.L (h:SlsL E w F ro xs)(e:Le w w'):SlsL E w' F ro xs:=h.kM e λ_ _=>not_false
theorem SlsL.weak (h:SlsL E w F ro xs)(hF:∀k,F k->F' k):SlsL E w F' ro xs:=⟨h.1,λi h1 h2=>(h.2 i h1 h2).weak hF⟩
theorem SlsL.weakA (h:SlsL E w F ro xs)(hF:∀k,F k->F' k:=by intro q hq;(try dsimp only at hq);(try dsimp only);omega):SlsL E w F' ro xs:=SlsL.weak h hF
theorem SlsL.snoc {a:Raw}{x:List α}(h:SlsL E w F ro xs)(hm:Sl E w F (slv a) x):SlsL E w F (ro++[a]) (xs++[x]):=by
 refine ⟨by simp[h.1],λi h1 h2=>?_⟩;have hl:=h.1;simp only[List.length_append,List.length_cons,List.length_nil] at h1
 by_cases hi:i<ro.length
 ·rw [List.getElem_append_left hi,List.getElem_append_left (by omega)]
  exact h.2 i hi (by omega)
 ·have e1:i=ro.length:=by omega
  subst e1;rw[List.getElem_append_right (by omega),List.getElem_append_right (by omega)];simp only[Nat.sub_self,hl,List.getElem_cons_zero];exact hm
theorem SlsL.sl (h:SlsL E w F ro xs)(hv:Sl slF.enc w F v ro):Sl (sliE E) w F v xs:=Sl.ofRaws rfl h.1 (λi h1 h2=>⟨slv ro[i],rfl,h.2 i h1 h2⟩) hv
end
end Go.Pn
end
section
namespace Go.Pn
section
variable
 {d:Nat}{x:Operand}{t tr e:TypeId}{pos:String}{after:Array Edge}
theorem O.clip {s g m cap:Nat}{kk k2:IntKind}{hi mx:Operand}(ht:P.underlying t=some (.slice e))(hsz:∀w,(sizeOf e).run P w=.ok s w)(hx:ev n f x=.slice (some ⟨g,0,none⟩) m cap)(hhi:ev n f hi=.int kk (m:Int))(hmx:ev n f mx=.int k2 (m:Int))(h1:m<=cap)
 (h:O P n ops rest N Z (upd f d (.slice (some ⟨g,0,none⟩) m m)) w):
 O P n ops (ZO d (.slice t x .none (some hi) (some mx)) tr pos after::rest) N Z f w:=by
 refine O.val rfl rfl ?_ h;have h3:execOp (ev n f) (ZO d (.slice t x .none (some hi) (some mx)) tr pos after)=(do pure (.value (<-Instr.sliceAt t (ev n f x) .none (some (ev n f hi)) (some (ev n f mx))))):=rfl;have hb:∀(k9:IntKind) (c9:Nat) (e9),m<=c9->(Instr.sliceBound (.int k9 (m:Int)) c9 e9).run P w=.ok m w:=λk9 c9 e9 h9=>by
  have:(m:Int)<=c9:=by omega
  simp[Instr.sliceBound,asIntOf,this]
 have h4:(Instr.sliceAt t (.slice (some ⟨g,0,none⟩) m cap) .none (some (.int kk (m:Int))) (some (.int k2 (m:Int)))).run P w=.ok (.slice (some ⟨g,0,none⟩) m m) w:=by
  unfold Instr.sliceAt;rw[Sem.run_bind,run_underlying ht,Result.andThen_ok];simp only[];unfold Instr.slice;rw[Sem.run_bind,run_underlying ht,Result.andThen_ok]
  simp[Instr.sliceBounds,hsz,hb _ _ _ h1,hb _ _ _ (Nat.le_refl m),Addr.add_none]
 rw[h3,Sem.run_bind,hx,hhi,hmx,h4]
 rfl
theorem O.clipNil {s:Nat}{kk k2:IntKind}{hi mx:Operand}(ht:P.underlying t=some (.slice e))(hsz:∀w,(sizeOf e).run P w=.ok s w)(hx:ev n f x=.slice none 0 0)(hhi:ev n f hi=.int kk 0)(hmx:ev n f mx=.int k2 0)
 (h:O P n ops rest N Z (upd f d (.slice none 0 0)) w):
 O P n ops (ZO d (.slice t x .none (some hi) (some mx)) tr pos after::rest) N Z f w:=by
 refine O.val rfl rfl ?_ h;have h3:execOp (ev n f) (ZO d (.slice t x .none (some hi) (some mx)) tr pos after)=(do pure (.value (<-Instr.sliceAt t (ev n f x) .none (some (ev n f hi)) (some (ev n f mx))))):=rfl;have hb:∀(k9:IntKind) (e9),(Instr.sliceBound (.int k9 0) 0 e9).run P w=.ok 0 w:=λk9 e9=>by simp[Instr.sliceBound,asIntOf]
 have h4:(Instr.sliceAt t (.slice none 0 0) .none (some (.int kk 0)) (some (.int k2 0))).run P w=.ok (.slice none 0 0) w:=by
  unfold Instr.sliceAt;rw[Sem.run_bind,run_underlying ht,Result.andThen_ok];simp only[];unfold Instr.slice;rw[Sem.run_bind,run_underlying ht,Result.andThen_ok]
  simp[Instr.sliceBounds,hsz,hb]
 rw[h3,Sem.run_bind,hx,hhi,hmx,h4]
 rfl
end
theorem OwnF.clipSl {α:Type}{G:Flat α}{ty:TypeId}{B:Nat}{w:World}{g n cap:Nat}{xs:List α}(h:OwnF G ty B w (.slice (some ⟨g,0,none⟩) n cap) xs)(hn:xs.length=n):Sl G.enc w (λk=>k=g) (.slice (some ⟨g,0,none⟩) n n) xs:=by
 subst hn;obtain ⟨h0,hm⟩:=h;rcases h0.2 with ⟨h1,_⟩|⟨g',cap',cur,h1,hb,hg,hle,hc,hsz,ht⟩
 ·cases h1
 ·have e1:g=g':=by cases h1;rfl
  have e2:cap=cap':=by cases h1;rfl
  subst e1;subst e2;have h8:OwnF G ty B w (.slice (some ⟨g,0,none⟩) xs.length cap) xs:=⟨h0,hm⟩
  have h9:=h8.sl;obtain ⟨_,h9⟩:=h9;rcases h9 with ⟨a,q1,q2⟩|⟨b,off,cap2,cur2,ty2,fr2,q1,q2,q3,q4,q5,q6,q7⟩
  ·have hx:xs.length=0:=by rw[q2];rfl
   exact ⟨hm,.inl ⟨some ⟨g,0,none⟩,by rw[hx],q2⟩⟩
  ·cases q1
   exact ⟨hm,.inr ⟨g,0,xs.length,cur2,ty2,fr2,rfl,rfl,q3,Nat.le_refl _,hm,λhp=>by have:=q6 hp;have:=Nat.mul_le_mul_right G.enc.sz hle;omega,q7⟩⟩
def Clip (v' v:Value):Prop:=v=v'∨∃g n cap,v'=.slice (some ⟨g,0,none⟩) n cap∧v=.slice (some ⟨g,0,none⟩) n n
theorem OwnF.clips {α:Type}{G:Flat α}{ty:TypeId}{B:Nat}{w:World}{v' v:Value}{xs:List α}(h:OwnF G ty B w v' xs)(hc:Clip v' v):Sl G.enc w (bk v') v xs:=by
 rcases hc with rfl|⟨g,n,cap,rfl,rfl⟩
 ·exact h.sl
 ·have hn:xs.length=n:=by
   rcases h.1.2 with ⟨h1,_⟩|⟨g',cap',cur,h1,_⟩
   ·cases h1
   ·cases h1;rfl
  exact (h.clipSl hn).weak λk hk=>hk
end Go.Pn
end
section
namespace Go.Pn
section
variable {te td ti tm:TypeId}{w:World}{lo hi:Nat}{u v:Value}{l:List EntT}
theorem SlE.clips (h:SlE te td ti tm w lo hi u l)(hc:Clip u v):∃raw,Sl entF.enc w (λj=>lo<=j∧j<hi) v raw∧EntL w (λj=>lo<=j∧j<hi) raw l:=by
 obtain ⟨raw,h1,h2⟩:=h;exact ⟨raw,(h1.1.clips hc).weak h1.2,h2.ents.weak λ_ hk=>hk.2⟩
end
end Go.Pn
end
section
namespace Go.Pn.Bt
open Go Go.Pn Go.Pn.Jn
section
variable {l:List Ent}{most:Int}
theorem small_len (h:small l most=true):(l.length:Int)<=most:=(small_iff h).1
theorem small_mid (h:small l most=true):Mid 20000 l:=λx hx=>by
 obtain ⟨h1,h2,h3,h4⟩:=Cn.small_iff ((small_iff h).2 x hx).2;exact ⟨by omega,by omega,by omega,λy hy=>by have:=h4 y hy;omega⟩
end
end Go.Pn.Bt
end
section
namespace Go.Pn.Ob
open Go Go.Pn Go.Pn.Jn Go.Pn.Bt
def At (ks:List Name)(k:Name)(i:Nat):Prop:=i<=ks.length∧(∀j,∀h:j<ks.length,j<i->BL ks[j] k)∧∀j,∀h:j<ks.length,i<=j->¬BL ks[j] k
theorem At.found {ks:List Name}{k:Name}{i:Nat}(h:At ks k i)(hp:ks.Pairwise BL):k∈ks↔∃q:i<ks.length,ks[i]=k:=by
 constructor
 ·intro hk
  obtain ⟨j,hj,e⟩:=List.getElem_of_mem hk;rcases Nat.lt_trichotomy j i with g|g|g
  ·exact absurd (e ▸ h.2.1 j hj g) (bl_irrefl _)
  ·subst g;exact ⟨hj,e⟩
  ·exact absurd (e ▸ (List.pairwise_iff_getElem.1 hp) i j (by omega) hj g) (h.2.2 i (by omega) (Nat.le_refl _))
 ·rintro ⟨q,e⟩
  rw[<-e];exact List.getElem_mem _
theorem At.nins {ks:List Name}{k:Name}{i:Nat}(h:At ks k i)(hp:ks.Pairwise BL)(hk:k∉ks):ks.take i++k::ks.drop i=nins k ks:=by
 refine pw_ext bl_irrefl (λa b=>bl_trans a b) ?_ (nins_pw k hp) λx=>?_
 ·refine List.pairwise_append.2 ⟨hp.sublist (List.take_sublist _ _),List.pairwise_cons.2 ⟨λx hx=>?_,hp.sublist (List.drop_sublist _ _)⟩,λa ha b hb=>?_⟩
  ·obtain ⟨j,hj,e⟩:=List.getElem_of_mem hx
   rw[List.getElem_drop] at e;have hj2:i+j<ks.length:=by rw[List.length_drop] at hj;omega
   have:=h.2.2 (i+j) hj2 (by omega);rw[e] at this;rcases bl_total x k with g|g|g
   ·exact absurd g this
   ·exact absurd (g ▸ List.mem_of_mem_drop hx) hk
   ·exact g
  ·obtain ⟨j,hj,e⟩:=List.getElem_of_mem ha
   rw[List.getElem_take] at e;have hj2:j<i∧j<ks.length:=by rw[List.length_take] at hj;omega
   have h1:=h.2.1 j hj2.2 hj2.1;rw[e] at h1;rcases List.mem_cons.1 hb with g|g
   ·rw [g];exact h1
   ·obtain ⟨j',hj',e'⟩:=List.getElem_of_mem g
    rw[List.getElem_drop] at e';have hj3:i+j'<ks.length:=by rw[List.length_drop] at hj';omega
    have:=(List.pairwise_iff_getElem.1 hp) j (i+j') hj2.2 hj3 (by omega);rw[e,e'] at this;exact this
 ·rw [nins_mem,List.mem_append,List.mem_cons]
  constructor
  ·rintro (g|g|g)
   ·exact .inr (List.mem_of_mem_take g)
   ·exact .inl g
   ·exact .inr (List.mem_of_mem_drop g)
  ·rintro (g|g)
   ·exact .inr (.inl g)
   ·rw [<-List.take_append_drop i ks,List.mem_append] at g
    exact g.imp id .inr
theorem bl_no {a b c:Name}(h:a=b∨BL a b)(hc:¬BL a c):¬BL b c:=λg=>hc (by rcases h with rfl|h;exact g;exact bl_trans h g)
theorem half_lo {ks:List Name}{k:Name}{m:Nat}(hp:ks.Pairwise BL)(hm:m<ks.length)(hb:BL ks[m] k):∀j,∀h:j<ks.length,j<m+1->BL ks[j] k:=by
 intro j hj hlt;rcases Nat.lt_or_eq_of_le (Nat.le_of_lt_succ hlt) with g|rfl
 ·exact bl_trans ((List.pairwise_iff_getElem.1 hp) j m hj hm g) hb
 ·exact hb
theorem half_hi {ks:List Name}{k:Name}{m:Nat}(hp:ks.Pairwise BL)(hm:m<ks.length)(hb:¬BL ks[m] k):∀j,∀h:j<ks.length,m<=j->¬BL ks[j] k:=by
 intro j hj hle;rcases Nat.lt_or_eq_of_le hle with g|rfl
 ·exact bl_no (.inr ((List.pairwise_iff_getElem.1 hp) m j hm hj g)) hb
 ·exact hb
theorem half64 {m:Int}(h0:0<=m)(h1:m<9223372036854775808):((BitVec.ofInt 64 m)>>>1).toInt=m/2:=by
 have e:(BitVec.ofInt 64 m).toNat=m.toNat:=by
  rw[BitVec.toNat_ofInt]
  omega
 have e2:((BitVec.ofInt 64 m)>>>1).toNat=m.toNat/2:=by rw[BitVec.toNat_ushiftRight,e,Nat.shiftRight_eq_div_pow]
 rw[BitVec.toInt_eq_toNat_of_lt (by rw[e2];omega),e2]
 omega
def keys (l:List Ent):List Name:=l.map (·.1)
theorem keys_len (l:List Ent):(keys l).length=l.length:=List.length_map _
theorem keys_get (l:List Ent)(i:Nat)(h:i<(keys l).length):(keys l)[i]=(l[i]'(by rw[keys_len] at h;exact h)).1:=List.getElem_map _
theorem keys_pw {l:List Ent}(h:Ord l):(keys l).Pairwise BL:=List.pairwise_map.2 h.up
def put (n:Int)(l:List Ent)(d:List Name)(k:Name)(c:Bt.Cart):List Ent×List Name:=
 if k∈d then (l,d) else if k∉keys l∧(l.length:Int)=n then (l,nins k d) else (merge l [(k,c)],d)
def PutR (n:Int)(l:List Ent)(d:List Name)(k:Name)(c:Bt.Cart)(l':List Ent)(d':List Name)(e:Int):Prop:=(okE (k,c)=true∧e=0∧put n l d k c=(l',d'))∨(okE (k,c)=false∧e=2∧l'=l∧d'=d)
theorem PutR.uniq {n:Int}{l l1 l2:List Ent}{d d1 d2:List Name}{k:Name}{c:Bt.Cart}{e1 e2:Int}(h:PutR n l d k c l1 d1 e1)(h':PutR n l d k c l2 d2 e2):l1=l2∧d1=d2∧e1=e2:=by
 rcases h with ⟨a1,a2,a3⟩|⟨a1,a2,a3,a4⟩<;>rcases h' with ⟨b1,b2,b3⟩|⟨b1,b2,b3,b4⟩
 ·have:=a3.symm.trans b3
  exact ⟨congrArg Prod.fst this,congrArg Prod.snd this,a2.trans b2.symm⟩
 ·rw [a1] at b1;cases b1
 ·rw [a1] at b1;cases b1
 ·exact ⟨a3.trans b3.symm,a4.trans b4.symm,a2.trans b2.symm⟩
theorem put_marked {n:Int}{l:List Ent}{d:List Name}{k:Name}{c:Bt.Cart}(h:k∈d):put n l d k c=(l,d):=if_pos h
theorem put_new {n:Int}{l:List Ent}{d:List Name}{k:Name}{c:Bt.Cart}(h:k∉d)(h1:k∉keys l)(h2:(l.length:Int)=n):put n l d k c=(l,nins k d):=by unfold put;rw[if_neg h,if_pos ⟨h1,h2⟩]
theorem put_merge {n:Int}{l:List Ent}{d:List Name}{k:Name}{c:Bt.Cart}(h:k∉d)(h1:k∈keys l∨(l.length:Int)≠n):put n l d k c=(merge l [(k,c)],d):=by
 unfold put;rw[if_neg h,if_neg λq=>?_];rcases h1 with g|g
 ·exact q.1 g
 ·exact g q.2
theorem one_ord {x:Ent}(h:okE x=true):Ord [x]:=⟨λy hy=>by rw[List.mem_singleton.1 hy];unfold okE at h;simp only[Bool.and_eq_true] at h;exact ⟨h.1,good_iff.1 h.2⟩,List.pairwise_singleton _ _⟩
def allIn (d:List Name)(wl:List Ent):Bool:=d.all λk=>decide (k∈keys wl)
def picked (d:List Name)(wl:List Ent):List Ent:=d.filterMap λk=>(get wl k).map λc=>(k,c)
theorem picked_at {wl:List Ent}{k:Name}{i:Nat}(h:Ord wl)(hi:i<wl.length)(hk:wl[i].1=k):(get wl k).map (λc=>(k,c))=some wl[i]:=by
 have:=get_mem h (List.getElem_mem hi);rw[hk] at this;rw[this,<-hk]
 rfl
theorem picked_snoc {d:List Name}{wl:List Ent}{k:Name}{i:Nat}(h:Ord wl)(hi:i<wl.length)(hk:wl[i].1=k):picked (d++[k]) wl=picked d wl++[wl[i]]:=by
 unfold picked;rw[List.filterMap_append,List.filterMap_cons,picked_at h hi hk]
 rfl
theorem picked_keys {d:List Name}{wl:List Ent}{x:Ent}(hx:x∈picked d wl):x∈wl∧x.1∈d:=by
 unfold picked at hx;obtain ⟨k,hk,e⟩:=List.mem_filterMap.1 hx;cases hg:get wl k with
 |none=>rw[hg] at e;cases e
 |some c=>
  rw[hg] at e;cases e;exact ⟨mem_get hg,hk⟩
theorem picked_ord {d:List Name}{wl:List Ent}(h:Ord wl)(hd:d.Pairwise BL):Ord (picked d wl):=by
 refine ⟨λx hx=>h.ok x (picked_keys hx).1,?_⟩
 induction d with
 |nil=>exact List.Pairwise.nil
 |cons k d ih=>
  have hp:=List.pairwise_cons.1 hd;have e:picked (k::d) wl=picked [k] wl++picked d wl:=by unfold picked;rw[<-List.filterMap_append];rfl
  rw[e];refine List.pairwise_append.2 ⟨?_,ih hp.2,λa ha b hb=>?_⟩
  ·unfold picked
   rw[List.filterMap_cons,List.filterMap_nil]
   split
   ·exact List.Pairwise.nil
   ·exact List.pairwise_singleton _ _
  ·have h1:=(picked_keys ha).2
   rw[List.mem_singleton.1 h1];exact hp.1 _ (picked_keys hb).2
def DrR (l:List Ent)(d:List Name)(wl:List Ent)(bs:List (List UInt8))(e:Int):Prop:=
 (ordered wl=false∧e=2∧bs=[])∨(ordered wl=true∧allIn d wl=false∧e=9∧bs=[])∨(ordered wl=true∧allIn d wl=true∧e=0∧bs=(split (merge l (picked d wl))).map enc)
theorem allIn_no {d:List Name}{wl:List Ent}{k:Nat}(h:k<d.length)(hk:d[k]∉keys wl):allIn d wl=false:=by
 cases hb:allIn d wl with
 |false=>rfl
 |true=>
  have:=List.all_eq_true.1 hb _ (List.getElem_mem h);exact absurd (by simpa using this) hk
theorem allIn_yes {d:List Name}{wl:List Ent}(h:∀i,∀q:i<d.length,d[i]∈keys wl):allIn d wl=true:=List.all_eq_true.2 λx hx=>by
 obtain ⟨i,hi,e⟩:=List.getElem_of_mem hx;rw[<-e];exact dT (h i hi)
theorem picked_len (d:List Name)(wl:List Ent):(picked d wl).length<=d.length:=List.length_filterMap_le _ _
def drE (d:List Name)(wl:List Ent):Int:=if ordered wl=false then 2 else if allIn d wl=false then 9 else 0
def drL (l:List Ent)(d:List Name)(wl:List Ent):List Ent:=if drE d wl=0 then merge l (picked d wl) else []
theorem drR_iff {l:List Ent}{d:List Name}{wl:List Ent}{bs:List (List UInt8)}{e:Int}(h:DrR l d wl bs e):e=drE d wl∧bs=(split (drL l d wl)).map enc:=by
 rcases h with ⟨h1,h2,h3⟩|⟨h1,h2,h3,h4⟩|⟨h1,h2,h3,h4⟩
 ·have e1:drE d wl=2:=if_pos h1
  refine ⟨h2.trans e1.symm,h3.trans ?_⟩;unfold drL;rw[e1,if_neg (by decide)];rfl
 ·have e1:drE d wl=9:=by unfold drE;rw[if_neg (by rw[h1];decide),if_pos h2]
  refine ⟨h3.trans e1.symm,h4.trans ?_⟩;unfold drL;rw[e1,if_neg (by decide)];rfl
 ·have e1:drE d wl=0:=by unfold drE;rw[if_neg (by rw[h1];decide),if_neg (by rw[h2];decide)]
  refine ⟨h3.trans e1.symm,h4.trans ?_⟩;unfold drL;rw[if_pos e1]
theorem drE_zero {d:List Name}{wl:List Ent}(h:drE d wl=0):ordered wl=true∧allIn d wl=true:=by
 unfold drE at h;cases h1:ordered wl with
 |false=>rw[h1] at h;simp at h
 |true=>
  cases h2:allIn d wl with
  |false=>rw[h1,h2] at h;simp at h
  |true=>exact ⟨rfl,rfl⟩
theorem drL_ord {l:List Ent}{d:List Name}{wl:List Ent}(hl:Ord l)(hd:d.Pairwise BL):Ord (drL l d wl):=by
 unfold drL
 split
 ·rename_i h;exact merge_ord hl (picked_ord (ord_iff.1 (drE_zero h).1) hd)
 ·exact Ord.nil
def someC (r c:Int):CartT:=(([(r,c)],[]),[([116,101,97],[((r,c),1,1)])])
end Go.Pn.Ob
end
section
namespace Go.Pn
section
variable
 {d:Nat}{x y:Operand}{t t' ty:TypeId}{pos:String}{after:Array Edge}
theorem O.eqlN0 (hx:ev n f x=.nilIface){ms:Array (String×TypeId)}(ht:P.underlying t=some (.interface ms))(h:O P n ops rest N Z (upd f d (.bool true)) w):
 O P n ops (ZO d (.binOp .eql t x (.const .nilIface) t') ty pos after::rest) N Z f w:=
 O.val rfl rfl (by
  refine run_bin hx (y:=.const .nilIface) rfl ?_ ?_ _ _
  ·simp only[eqGuard,Bool.or_true]
   rfl
  ·have h2:binOp .eql t .nilIface .nilIface=(do pure (.bool ((<-Op.equal t .nilIface .nilIface)))):=rfl
   have h1:(Op.equal t .nilIface .nilIface).run P w=.ok true w:=by
    unfold Op.equal Op.maxDepth;rw[Op.equalIn,Sem.run_bind,run_underlying ht]
    rfl
   show Sem.run P (binOp .eql t .nilIface .nilIface) w=_;rw[h2,Sem.run_bind,h1]
   rfl) h
theorem O.eqlN1 {te:TypeId}{v:Value}(hx:ev n f x=.iface te v)(hy:ev n f y=.nilIface){ms:Array (String×TypeId)}(ht:P.underlying t=some (.interface ms))(h:O P n ops rest N Z (upd f d (.bool false)) w):
 O P n ops (ZO d (.binOp .eql t x y t') ty pos after::rest) N Z f w:=
 O.val rfl rfl (by
  refine run_bin hx hy ?_ ?_ _ _
  ·simp only[eqGuard]
   rw[if_neg (by decide)]
   rfl
  ·have h2:binOp .eql t (.iface te v) .nilIface=(do pure (.bool ((<-Op.equal t (.iface te v) .nilIface)))):=by cases v<;>rfl
   have h1:(Op.equal t (.iface te v) .nilIface).run P w=.ok false w:=by
    unfold Op.equal Op.maxDepth;rw[Op.equalIn,Sem.run_bind,run_underlying ht]
    rfl
   rw[h2,Sem.run_bind,h1]
   rfl) h
theorem O.holds {xt te:TypeId}{v:Value}{de:TypeDesc}(ht:P.underlying te=some de)(hd:isIf de=false)(hx:ev n f x=.iface te v)(h:O P n ops rest N Z (upd f d (.tuple #[v,.bool true])) w):
 O P n ops (ZO d (.typeAssert x xt te true) ty pos after::rest) N Z f w:=
 O.val rfl rfl (by
  have h3:execOp (ev n f) (ZO d (.typeAssert x xt te true) ty pos after)=(do pure (.value (<-Instr.typeAssert (ev n f x) xt te true))):=rfl;rw[h3,Sem.run_bind,hx];have h4:(Instr.typeAssert (.iface te v) xt te true).run P w=.ok (.tuple #[v,.bool true]) w:=by
   unfold Instr.typeAssert;rw[Sem.run_bind,run_underlying ht];cases de<;>first|(simp[isIf] at hd;done)|simp
  rw[h4]
  rfl) h
def goalS (P:Program)(fn:Func)(c₀:Frame)(cs:List Frame)(S:World->Prop)(u':FrameMode)(rest:Code)(a:Act)(cs':List Frame)(w:World):Prop:=
 rest.wpS P (bodyPostS P fn c₀ cs λe u2 w'=>(∃q,e=.returned q)∧u2=u'∧S w') a cs' w
theorem callsD_recover {g:Nat}{fn:Func}{rest:Code}{args:List Value}{u u':FrameMode}{w:World}{S:World->Prop}{rv:Value}{id:Nat}{d:Nat}{ats:Array TypeId}{ty:TypeId}{pos:String}{after:Array Edge}
 (hf:P.funcs[g]? =some fn)(hb:fn.body=some (.seq (.region id [ZO d (.call {callee:=.builtin .recover,args:=([]:List Operand).toArray,argTypes:=ats}) ty pos after].toArray false) rest))
 (hn:fn.ntmps=n)(ha:args.length<=n)(hr:fn.results=#[])
 (hrec:∀(c₀:Frame) (cs:List Frame),c₀.mode=u->match recoverD (c₀::cs) with|some (v,cs')=>v=rv∧cs'={c₀ with mode:=u'}::cs|none=>rv=.nilIface∧u'=u)
 (h:C P n rest (λ_ w'=>S w') (λ_ _ _=>False) (λ_ w'=>S w') (λ_ _=>False) (upd (init args) d rv) w):
 CallsD P g args.toArray u w λe u2 w'=>(∃q,e=.returned q)∧u2=u'∧S w':=by
 subst hn;refine callsD_of_wpS hf hb λc₀ cs hu=>?_
 have hc:({c₀ with mode:=u}:Frame)=c₀:=by subst hu;rfl
 rw[Fr_init _ _ ha];refine wpS_seq (wpS_region ?_);have hrun:(execOp (Fr fn.ntmps (init args)).eval (ZO d (.call {callee:=.builtin .recover,args:=([]:List Operand).toArray,argTypes:=ats}) ty pos after)).run P w=.ok .recover w:=by
  simp[execOp,resolve,invoke,builtin]
 have hz:(Array.size [((ZO d (.call {callee:=.builtin .recover,args:=([]:List Operand).toArray,argTypes:=ats}) ty pos after):Oper)].toArray)=1:=rfl;have hlast:∀cs':List Frame,cs'={c₀ with mode:=u'}::cs->goalS P fn c₀ cs S u' rest (Fr fn.ntmps (upd (init args) d rv)) cs' w:=by
  intro cs' hcs;subst hcs;refine wpS_of_wp (wp_mono h ?_);intro e a w he;cases e with
  |normal=>obtain ⟨f,rfl,hs⟩:=he;exact ⟨rfl,u',rfl,.tuple #[],by rw[results_none hr],⟨_,rfl⟩,rfl,hs⟩
  |ret=>obtain ⟨f,rfl,hs⟩:=he;exact ⟨rfl,u',rfl,.tuple #[],by rw[results_none hr],⟨_,rfl⟩,rfl,hs⟩
  |exit i=>obtain ⟨_,_,h⟩:=he;exact h.elim
  |goto l=>exact he.elim
  |panic ch=>exact he.2.elim
  |outgrown=>exact he.elim
 have hrec:=hrec c₀ cs hu;have hp:=put_Fr fn.ntmps (init args) d rv;rw[hz];simp only[List.range_one,wpOpsS,List.getElem?_toArray,List.getElem?_cons_zero,Region.wanted,if_true,hrun]
 generalize recoverD (c₀::cs)=q at hrec ⊢
 cases q with
 |none=>
  obtain ⟨h1,h2⟩:=hrec;subst h2;show goalS _ _ _ _ _ _ _ ((Fr fn.ntmps (init args)).put (some d) .nilIface) _ _;rw[<-h1,hp];exact hlast _ (by rw[hc])
 |some q=>
  obtain ⟨v,cs'⟩:=q;obtain ⟨h1,h2⟩:=hrec;show goalS _ _ _ _ _ _ _ ((Fr fn.ntmps (init args)).put (some d) v) _ _;rw[h1,hp];exact hlast _ h2
end
end Go.Pn
end
