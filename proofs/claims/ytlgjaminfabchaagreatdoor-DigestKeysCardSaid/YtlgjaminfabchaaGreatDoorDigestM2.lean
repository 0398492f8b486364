/-
 PLAIN LAWS OF VECTORS: what a vector has, the smallest one that has some dots, merging, order. Of no program.
-/
import Derived.Lib.Bytealg
import Derived.WalkKit
import Derived.ProofKit
import Derived.OpenShut
import Derived.WideKeyArgs
import Derived.LaidLaws
import Derived.Deep.DeepHandedRow
import Derived.Deep.DeepWitnessRowRef
import Derived.Lib.LaidTab
import Derived.Deep.Slices
import Derived.Lib.AppendZeros
import Derived.Lib.AppendStr
import Derived.Scope
import Derived.Shelf.SlSortCmp.WholeK
import Derived.Laws.RangeString
import Derived.ChangeKeysEq
import Derived.Shelf.SlSortCmp.Whole1
import Derived.Defers
import Derived.Recover
import Derived.RangeFuncLeaves
import Derived.RangeFuncSeq
import Derived.Laws.IdiomCopy
import Derived.Lib.AppendZerosOnto
import Derived.Lib.Overlaps
import Derived.Test.YtlgjaminfabchaaGreatDoorDigestM1
section
namespace Go.Pn.Vc
open Go Go.Pn Go.Pn.Cn
abbrev V:=List Dt.Dot
def Ok (v:V):Prop:=v.Pairwise (λa b=>a.1<b.1)∧∀d∈v,Dt.Valid d
theorem pw_adj:∀{v:V},incr v=true↔v.Pairwise (λa b=>a.1<b.1)
 |[]=>by simp[incr,adj]
 |[a]=>by simp[incr,adj]
 |a::b::l=>by
  have ih:=pw_adj (v:=b::l);unfold incr at ih ⊢;unfold adj;rw[Bool.and_eq_true,ih,decide_eq_true_iff]
  constructor
  ·rintro ⟨h1,h2⟩
   refine List.pairwise_cons.2 ⟨λc hc=>?_,h2⟩;rcases List.mem_cons.1 hc with rfl|hc
   ·exact h1
   ·exact Int.lt_trans h1 ((List.pairwise_cons.1 h2).1 c hc)
  ·intro h
   have h':=List.pairwise_cons.1 h;exact ⟨h'.1 b (.head _),h'.2⟩
theorem ok_iff {v:V}:vecValid v=true↔Ok v:=by
 unfold vecValid Ok;rw[Bool.and_eq_true,pw_adj];refine and_congr_right λ_=>?_
 constructor
 ·intro h d hd
  apply okD_of
  cases hb:badD d with
  |false=>rfl
  |true=>
   have:v.any badD=true:=List.any_eq_true.2 ⟨d,hd,hb⟩;rw[this] at h;cases h
 ·intro h
  cases ha:v.any badD with
  |false=>rfl
  |true=>
   obtain ⟨d,hd,hb⟩:=List.any_eq_true.1 ha;unfold badD okD at hb;rw[dT (h d hd)] at hb;cases hb
theorem Ok.nil:Ok []:=⟨List.Pairwise.nil,by simp⟩
theorem Ok.tail {a:Dt.Dot}{v:V}(h:Ok (a::v)):Ok v:=⟨(List.pairwise_cons.1 h.1).2,λd hd=>h.2 d (.tail _ hd)⟩
theorem Ok.head {a:Dt.Dot}{v:V}(h:Ok (a::v)):∀d∈v,a.1<d.1:=(List.pairwise_cons.1 h.1).1
theorem get_nil (r:Int):get [] r=0:=rfl
theorem get_cons (a:Dt.Dot)(v:V)(r:Int):get (a::v) r=if a.1=r then a.2 else get v r:=by
 unfold Cn.get
 by_cases h:a.1=r
 ·rw [if_pos h,List.find?_cons_of_pos (by simpa using h)]
 ·rw [if_neg h,List.find?_cons_of_neg (by simpa using h)]
theorem get_zero {v:V}{r:Int}(h:∀d∈v,d.1≠r):get v r=0:=by
 induction v with
 |nil=>rfl
 |cons a v ih=>rw[get_cons,if_neg (h a (.head _)),ih λd hd=>h d (.tail _ hd)]
theorem get_mem {v:V}(h:Ok v){d:Dt.Dot}(hd:d∈v):get v d.1=d.2:=by
 induction v with
 |nil=>cases hd
 |cons a v ih=>
  rw[get_cons];rcases List.mem_cons.1 hd with rfl|hd
  ·rw [if_pos rfl]
  ·rw [if_neg (by have:=h.head d hd;omega),ih h.tail hd]
theorem get_some {v:V}{r:Int}(h:get v r≠0):∃d∈v,d.1=r:=by
 induction v with
 |nil=>exact absurd rfl h
 |cons a v ih=>
  rw[get_cons] at h
  by_cases ha:a.1=r
  ·exact ⟨a,.head _,ha⟩
  ·rw [if_neg ha] at h
   obtain ⟨d,hd,e⟩:=ih h;exact ⟨d,.tail _ hd,e⟩
theorem get_ge {v:V}(h:Ok v)(r:Int):0<=get v r:=by
 by_cases hz:get v r=0
 ·omega
 ·obtain ⟨d,hd,rfl⟩:=get_some hz
  rw[get_mem h hd];have:=h.2 d hd;unfold Dt.Valid at this
  omega
theorem ext:∀{a b:V},Ok a->Ok b->(∀r,get a r=get b r)->a=b
 |[],[],_,_,_=>rfl
 |[],y::b,_,hb,h=>by
  have:=h y.1;rw[get_cons,if_pos rfl] at this;have h2:=hb.2 y (.head _);unfold Dt.Valid at h2;rw[get_nil] at this
  omega
 |x::a,[],ha,_,h=>by
  have:=h x.1;rw[get_cons,if_pos rfl] at this;have h2:=ha.2 x (.head _);unfold Dt.Valid at h2;rw[get_nil] at this
  omega
 |x::a,y::b,ha,hb,h=>by
  have vx:=ha.2 x (.head _);have vy:=hb.2 y (.head _);unfold Dt.Valid at vx vy;have h1:x.1=y.1:=by
   rcases Int.lt_trichotomy x.1 y.1 with q|q|q
   ·have:=h x.1
    rw[get_cons,if_pos rfl,get_cons,if_neg (by omega),get_zero λd hd=>by have:=hb.head d hd;omega] at this
    omega
   ·exact q
   ·have:=h y.1
    rw[get_cons,get_cons,if_pos rfl,if_neg (by omega),get_zero λd hd=>by have:=ha.head d hd;omega] at this
    omega
  have h2:x.2=y.2:=by
   have:=h x.1;rwa [get_cons,if_pos rfl,get_cons,if_pos h1.symm] at this
  have hxy:x=y:=Prod.ext h1 h2;rw[hxy,ext ha.tail hb.tail λr=>?_]
  by_cases hr:x.1=r
  ·rw [get_zero λd hd=>by have:=ha.head d hd;omega,get_zero λd hd=>by have:=hb.head d hd;omega]
  ·have:=h r
   rwa [get_cons,if_neg hr,get_cons,if_neg (by rw[<-h1];exact hr)] at this
def rgo (d:Dt.Dot):Bool->V->V->V
 |done,out,[]=>if done then out else out++[d]
 |done,out,x::r=>
  let hit:= !done&&decide (x.1≥d.1)
  let out1:=if hit then out++[d] else out
  rgo d (done||hit) (if x.1=d.1 then out1 else out1++[x]) r
def raise (v:V)(d:Dt.Dot):V:=if vecHas v d then v else rgo d false [] v
def ins (d:Dt.Dot):V->V
 |[]=>[d]
 |x::r=>if x.1≥d.1 then d::(x::r).filter (λy=>decide (y.1≠d.1)) else x::ins d r
theorem rgo_true (d:Dt.Dot):∀(out v:V),rgo d true out v=out++v.filter (λy=>decide (y.1≠d.1))
 |out,[]=>by simp[rgo]
 |out,x::r=>by
  unfold rgo;simp only[Bool.not_true,Bool.false_and,Bool.false_eq_true,if_false,Bool.true_or];rw[rgo_true]
  by_cases h:x.1=d.1
  ·rw [if_pos h,List.filter_cons_of_neg (by simpa using h)]
  ·rw [if_neg h,List.filter_cons_of_pos (by simpa using h),List.append_assoc]
   rfl
theorem rgo_false (d:Dt.Dot):∀(out v:V),rgo d false out v=out++ins d v
 |out,[]=>rfl
 |out,x::r=>by
  unfold rgo ins
  by_cases h:x.1≥d.1
  ·simp only[Bool.not_false,Bool.true_and,decide_eq_true h,if_true,Bool.false_or,if_pos h]
   rw[rgo_true]
   by_cases h2:x.1=d.1
   ·rw [if_pos h2,List.filter_cons_of_neg (by simpa using h2),List.append_assoc]
    rfl
   ·rw [if_neg h2,List.filter_cons_of_pos (by simpa using h2)]
    simp
  ·simp only[Bool.not_false,Bool.true_and,decide_eq_false h,Bool.false_eq_true,if_false,Bool.false_or,if_neg h]
   rw[if_neg (by omega),rgo_false,List.append_assoc]
   rfl
theorem raise_ins (v:V)(d:Dt.Dot):raise v d=if vecHas v d then v else ins d v:=by
 unfold raise;rw[rgo_false]
 rfl
theorem get_filter {v:V}{k r:Int}(h:r≠k):get (v.filter (λy=>decide (y.1≠k))) r=get v r:=by
 induction v with
 |nil=>rfl
 |cons a v ih=>
  by_cases ha:a.1=k
  ·rw [List.filter_cons_of_neg (by simpa using ha),ih,get_cons,if_neg (by omega)]
  ·rw [List.filter_cons_of_pos (by simpa using ha),get_cons,get_cons,ih]
theorem get_ins (d:Dt.Dot)(r:Int):∀v:V,get (ins d v) r=if r=d.1 then d.2 else get v r
 |[]=>by
  show get [d] r=_;rw[get_cons]
  by_cases h:r=d.1
  ·rw [if_pos h,if_pos h.symm]
  ·rw [if_neg h,if_neg (λq=>h q.symm)]
 |x::v=>by
  unfold ins
  by_cases hx:x.1≥d.1
  ·rw [if_pos hx,get_cons]
   by_cases h:r=d.1
   ·rw [if_pos h,if_pos h.symm]
   ·rw [if_neg h,if_neg (λq=>h q.symm),get_filter h]
  ·rw [if_neg hx,get_cons,get_ins d r v,get_cons]
   by_cases h:r=d.1
   ·rw [if_neg (by omega),if_pos h,if_pos h]
   ·rw [if_neg h,if_neg h]
theorem mem_ins {d x:Dt.Dot}:∀{v:V},x∈ins d v->x=d∨x∈v
 |[],h=>by
  rcases List.mem_cons.1 h with h|h
  ·exact .inl h
  ·cases h
 |y::v,h=>by
  unfold ins at h
  split at h
  ·rcases List.mem_cons.1 h with h|h
   ·exact .inl h
   ·exact .inr (List.mem_filter.1 h).1
  ·rcases List.mem_cons.1 h with h|h
   ·exact .inr (h ▸ .head _)
   ·rcases mem_ins h with h|h
    ·exact .inl h
    ·exact .inr (.tail _ h)
theorem ok_ins {d:Dt.Dot}(hd:Dt.Valid d):∀{v:V},Ok v->Ok (ins d v)
 |[],_=>⟨List.pairwise_singleton _ _,λx hx=>by rcases mem_ins hx with h|h;exact h ▸ hd;cases h⟩
 |y::v,h=>by
  refine ⟨?_,λx hx=>by rcases mem_ins hx with q|q;exact q ▸ hd;exact h.2 x q⟩;unfold ins
  split
  ·rename_i hy
   refine List.pairwise_cons.2 ⟨λx hx=>?_,h.1.sublist List.filter_sublist⟩;obtain ⟨h1,h2⟩:=List.mem_filter.1 hx;have h3:x.1≠d.1:=by simpa using h2
   rcases List.mem_cons.1 h1 with rfl|h1
   ·omega
   ·have:=h.head x h1
    omega
  ·refine List.pairwise_cons.2 ⟨λx hx=>?_,(ok_ins hd h.tail).1⟩
   rcases mem_ins hx with q|q
   ·subst q;omega
   ·exact h.head x q
theorem ins_len (d:Dt.Dot):∀v:V,(ins d v).length<=v.length+1
 |[]=>Nat.le_refl _
 |x::v=>by
  unfold ins
  split
  ·have:=List.length_filter_le (λy:Dt.Dot=>decide (y.1≠d.1)) (x::v)
   show (List.filter _ _).length+1<=_
   omega
  ·have:=ins_len d v
   show (ins d v).length+1<=v.length+1+1
   omega
theorem raise_len (v:V)(d:Dt.Dot):(raise v d).length<=v.length+1:=by
 rw[raise_ins]
 split
 ·omega
 ·exact ins_len d v
theorem ok_raise {v:V}{d:Dt.Dot}(hv:Ok v)(hd:Dt.Valid d):Ok (raise v d):=by
 rw[raise_ins]
 split
 ·exact hv
 ·exact ok_ins hd hv
theorem vecHas_iff {v:V}{d:Dt.Dot}(hd:Dt.Valid d):vecHas v d=true↔d.2<=get v d.1:=by
 unfold vecHas okD;rw[decide_eq_true hd]
 simp
theorem get_raise {v:V}{d:Dt.Dot}(hd:Dt.Valid d)(r:Int):get (raise v d) r=if r=d.1 then max (get v r) d.2 else get v r:=by
 rw[raise_ins]
 by_cases h:vecHas v d=true
 ·rw [if_pos h]
  have:=(vecHas_iff hd).1 h
  by_cases hr:r=d.1
  ·rw [if_pos hr,hr];omega
  ·rw [if_neg hr]
 ·rw [if_neg h,get_ins]
  have:=mt (vecHas_iff hd).2 h
  by_cases hr:r=d.1
  ·rw [if_pos hr,if_pos hr,hr];omega
  ·rw [if_neg hr,if_neg hr]
def of (l:V):V:=l.foldl raise []
def mrg (a b:V):V:=of (a++b)
def tops (x:Int)(l:V)(r:Int):Int:=l.foldl (λm d=>if r=d.1 then max m d.2 else m) x
theorem ok_fold {l:V}(hl:∀d∈l,Dt.Valid d):∀{v:V},Ok v->Ok (l.foldl raise v):=by
 induction l with
 |nil=>intro v hv;exact hv
 |cons a l ih=>intro v hv;exact ih (λd hd=>hl d (.tail _ hd)) (ok_raise hv (hl a (.head _)))
theorem get_fold {l:V}(hl:∀d∈l,Dt.Valid d)(r:Int):∀v:V,get (l.foldl raise v) r=tops (get v r) l r:=by
 induction l with
 |nil=>intro v;rfl
 |cons a l ih=>
  intro v;show get (l.foldl raise (raise v a)) r=tops (get v r) (a::l) r;rw[ih (λd hd=>hl d (.tail _ hd)),get_raise (hl a (.head _))]
  rfl
theorem tops_max (r:Int):∀(l:V) (x y:Int),tops (max x y) l r=max x (tops y l r)
 |[],x,y=>rfl
 |a::l,x,y=>by
  show tops (if r=a.1 then max (max x y) a.2 else max x y) l r=max x (tops (if r=a.1 then max y a.2 else y) l r)
  by_cases h:r=a.1
  ·rw [if_pos h,if_pos h,<-tops_max r l]
   congr 1
   omega
  ·rw [if_neg h,if_neg h,tops_max r l]
theorem tops_from {l:V}{x r:Int}(hx:0<=x):tops x l r=max x (tops 0 l r):=by
 have:=tops_max r l x 0;rw[show max x 0=x by omega] at this;exact this
theorem tops_ok {v:V}(h:Ok v)(r:Int):tops 0 v r=get v r:=by
 induction v with
 |nil=>rfl
 |cons a v ih=>
  have ha:=h.2 a (.head _);unfold Dt.Valid at ha;show tops (if r=a.1 then max 0 a.2 else 0) v r=_;rw[get_cons]
  by_cases hr:r=a.1
  ·rw [if_pos hr,if_pos hr.symm,tops_from (by omega),ih h.tail,get_zero λd hd=>by have:=h.head d hd;omega]
   omega
  ·rw [if_neg hr,if_neg (λq=>hr q.symm),ih h.tail]
theorem tops_app (a b:V)(x r:Int):tops x (a++b) r=tops (tops x a r) b r:=by
 unfold tops;rw[List.foldl_append]
theorem ok_of {l:V}(hl:∀d∈l,Dt.Valid d):Ok (of l):=ok_fold hl Ok.nil
theorem get_of {l:V}(hl:∀d∈l,Dt.Valid d)(r:Int):get (of l) r=tops 0 l r:=get_fold hl r []
theorem both_valid {a b:V}(ha:∀d∈a,Dt.Valid d)(hb:∀d∈b,Dt.Valid d):∀d∈a++b,Dt.Valid d:=λd hd=>by
 rcases List.mem_append.1 hd with h|h
 ·exact ha d h
 ·exact hb d h
theorem ok_mrg {a b:V}(ha:Ok a)(hb:Ok b):Ok (mrg a b):=ok_of (both_valid ha.2 hb.2)
theorem get_mrg {a b:V}(ha:Ok a)(hb:Ok b)(r:Int):get (mrg a b) r=max (get a r) (get b r):=by
 unfold mrg;rw[get_of (both_valid ha.2 hb.2),tops_app,tops_ok ha,tops_from (get_ge ha r),tops_ok hb]
theorem of_ok {v:V}(h:Ok v):of v=v:=ext (ok_of h.2) h λr=>by rw[get_of h.2,tops_ok h]
def mfold (l:V):List (Int×Int):=l.foldl (λes d=>mput es d.1 (max (mget es d.1) d.2)) []
theorem mget_get (es:List (Int×Int))(k:Int):mget es k=get es k:=rfl
theorem mget_put {k v:Int}(r:Int):∀es:List (Int×Int),mget (mput es k v) r=if r=k then v else mget es r
 |[]=>by
  show get [(k,v)] r=if r=k then v else 0;rw[get_cons]
  by_cases h:r=k
  ·rw [if_pos h,if_pos h.symm]
  ·rw [if_neg h,if_neg λq=>h q.symm,get_nil]
 |p::es=>by
  have ih:=mget_put r es (k:=k) (v:=v);rw[mget_get] at ih ⊢;unfold mput
  by_cases hp:p.1=k
  ·rw [if_pos hp,get_cons,mget_get,get_cons]
   by_cases h:r=k
   ·rw [if_pos h,if_pos h.symm]
   ·rw [if_neg h,if_neg λq=>h q.symm,if_neg (by omega)]
  ·rw [if_neg hp,get_cons,ih,mget_get,mget_get,get_cons]
   by_cases h:r=k
   ·rw [if_pos h,if_neg (by omega),if_pos h]
   ·rw [if_neg h,if_neg h]
theorem mfold_snoc (l:V)(d:Dt.Dot):mfold (l++[d])=mput (mfold l) d.1 (max (mget (mfold l) d.1) d.2):=by
 unfold mfold;rw[List.foldl_append]
 rfl
theorem mfold_get (l:V)(r:Int):mget (mfold l) r=tops 0 l r:=by
 have key:∀(l:V) (es:List (Int×Int)),mget (l.foldl (λes d=>mput es d.1 (max (mget es d.1) d.2)) es) r=tops (mget es r) l r:=by
  intro l
  induction l with
  |nil=>intro es;rfl
  |cons a l ih=>
   intro es;show mget (l.foldl _ (mput es a.1 (max (mget es a.1) a.2))) r=tops (if r=a.1 then max (mget es r) a.2 else mget es r) l r;rw[ih,mget_put]
   by_cases h:r=a.1
   ·rw [if_pos h,if_pos h,h]
   ·rw [if_neg h,if_neg h]
 exact key l []
theorem mput_mem {k v:Int}{p:Int×Int}:∀{es:List (Int×Int)},p∈mput es k v->p=(k,v)∨p∈es
 |[],h=>.inl (List.mem_singleton.1 h)
 |q::es,h=>by
  unfold mput at h
  split at h
  ·rcases List.mem_cons.1 h with h|h
   ·exact .inl h
   ·exact .inr (.tail _ h)
  ·rcases List.mem_cons.1 h with h|h
   ·exact .inr (h ▸ .head _)
   ·rcases mput_mem h with h|h
    ·exact .inl h
    ·exact .inr (.tail _ h)
theorem mfold_pos {l:V}(hl:∀d∈l,Dt.Valid d):∀p∈mfold l,0<p.2:=by
 have key:∀(l:V),(∀d∈l,Dt.Valid d)->∀(es:List (Int×Int)),(∀p∈es,0<p.2)->∀p∈l.foldl (λes d=>mput es d.1 (max (mget es d.1) d.2)) es,0<p.2:=by
  intro l
  induction l with
  |nil=>intro _ es h;exact h
  |cons a l ih=>
   intro hl es h;refine ih (λd hd=>hl d (.tail _ hd)) _ λp hp=>?_
   rcases mput_mem hp with rfl|hp
   ·have:=hl a (.head _)
    unfold Dt.Valid at this;show 0<max _ a.2
    omega
   ·exact h p hp
 exact key l hl [] (by simp)
theorem mput_len {k v:Int}:∀es:List (Int×Int),(mput es k v).length<=es.length+1
 |[]=>Nat.le_refl _
 |p::es=>by
  unfold mput
  split
  ·simp
  ·have:=mput_len es (k:=k) (v:=v)
   simp only[List.length_cons]
   omega
theorem mfold_len (l:V):(mfold l).length<=l.length:=by
 have key:∀(l:V) (es:List (Int×Int)),(l.foldl (λes d=>mput es d.1 (max (mget es d.1) d.2)) es).length<=es.length+l.length:=by
  intro l
  induction l with
  |nil=>intro es;simp
  |cons a l ih=>
   intro es;have h1:=ih (mput es a.1 (max (mget es a.1) a.2));have h2:=mput_len es (k:=a.1) (v:=max (mget es a.1) a.2);simp only[List.foldl_cons,List.length_cons]
   omega
 have:=key l [];simp only[List.length_nil,Nat.zero_add] at this;exact this
theorem sorted_of {l:V}(hl:∀d∈l,Dt.Valid d){es done out:List (Int×Int)}(he:es=mfold l)(hk:(es.map (·.1)).Nodup)(hp:done.Perm es)(hq:out.Perm done)(hs:out.Pairwise (λa b=>a.1<=b.1)):out=of l:=by
 subst he;have hpe:out.Perm (mfold l):=hq.trans hp;have hkeys:(out.map (·.1)).Nodup:=(hpe.map _).nodup_iff.2 hk;have hlt:out.Pairwise (λa b=>a.1<b.1):=by
  have h1:=List.pairwise_map.1 hkeys;exact (List.pairwise_and_iff.2 ⟨hs,h1⟩).imp λ{a b} h=>by
   have h1:=h.1;have h2:=h.2
   omega
 have hget:∀p∈out,get (of l) p.1=p.2:=λp hp2=>by
  have hm:=hpe.mem_iff.1 hp2;obtain ⟨j,hj,hj2⟩:=List.getElem_of_mem hm;have:=mget_at hk (j:=j) (p:=p) (by rw[List.getElem?_eq_getElem hj,hj2]);rw[get_of hl,<-mfold_get,this]
 have hov:∀p∈out,Dt.Valid p:=λp hp2=>by
  have h1:=hget p hp2;have h2:=mfold_pos hl p (hpe.mem_iff.1 hp2);obtain ⟨d,hd,hd2⟩:=get_some (v:=of l) (r:=p.1) (by omega);have h3:=get_mem (ok_of hl) hd;have h4:d=p:=Prod.ext hd2 (by rw[<-h3,<-h1,hd2]);exact h4 ▸ (ok_of hl).2 d hd
 have hok:Ok out:=⟨hlt,hov⟩
 refine ext hok (ok_of hl) λr=>?_
 by_cases hz:get out r=0
 ·rw [hz]
  by_cases h2:get (of l) r=0
  ·exact h2.symm
  ·rw [get_of hl,<-mfold_get] at h2
   obtain ⟨p,hp2,rfl⟩:=get_some (v:=mfold l) (r:=r) h2;have hm:=hpe.mem_iff.2 hp2;have:=get_mem hok hm;have:=mfold_pos hl p hp2
   omega
 ·obtain ⟨d,hd,rfl⟩:=get_some hz
  rw[get_mem hok hd,hget d hd]
theorem of_len (l:V):(of l).length<=l.length:=by
 have key:∀(l:V) (v:V),(l.foldl raise v).length<=v.length+l.length:=by
  intro l
  induction l with
  |nil=>intro v;simp
  |cons a l ih=>
   intro v;have h1:=ih (raise v a);have h2:=raise_len v a;simp only[List.foldl_cons,List.length_cons]
   omega
 have:=key l [];simp only[List.length_nil,Nat.zero_add] at this;exact this
theorem valid_no {v:V}{i:Nat}(h:i<v.length)(hb:¬Dt.Valid v[i]):vecValid v=false:=by
 cases hv:vecValid v with
 |false=>rfl
 |true=>exact absurd ((ok_iff.1 hv).2 _ (List.getElem_mem h)) hb
theorem get_none {v:V}{r:Int}(hn:∀j,∀q:j<v.length,v[j].1≠r):get v r=0:=get_zero λd hd=>by
 obtain ⟨i,hi,rfl⟩:=List.getElem_of_mem hd;exact hn i hi
theorem of_bad {l:V}{i:Nat}(h:i<l.length)(hb:¬Dt.Valid l[i]):l.any badD=true:=List.any_eq_true.2 ⟨l[i],List.getElem_mem h,by unfold badD okD;rw[decide_eq_false hb];rfl⟩
theorem flatten_take {α:Type}{ps:List (List α)}{k:Nat}(h:k<ps.length):(ps.take (k+1)).flatten=(ps.take k).flatten++ps[k]:=by
 rw[List.take_succ_eq_append_getElem h,List.flatten_append]
 simp
theorem flatten_take_le {α:Type}(ps:List (List α))(k:Nat):(ps.take k).flatten.length<=ps.flatten.length:=by
 have:=congrArg (λl:List (List α)=>l.flatten.length) (List.take_append_drop k ps);simp only[List.flatten_append,List.length_append] at this
 omega
end Go.Pn.Vc
end
variable {P:Go.Program}{n:Nat}{ops rest:List Go.Oper}{N:Go.Pn.Val->Go.World->Prop}{Z:List Go.PanicEntry->Go.World->Prop}{f:Go.Pn.Val}{w:Go.World}
section
namespace Go.Pn.Jn
open Go Go.Pn Go.Pn.Cn
abbrev Name:=List UInt8
abbrev Mark:=MarkT
abbrev Item:=ItemT
abbrev Dot:=Dt.Dot
abbrev Ctx:=List Dt.Dot×List Dt.Dot
abbrev Cart:=Cn.Cart
def BL (a b:Name):Prop:=Op.bytesLess a b=true
instance (a b:Name):Decidable (BL a b):=inferInstanceAs (Decidable (_=true))
theorem bl_nil (a:Name):¬BL a []:=by cases a<;>simp[BL,Op.bytesLess]
theorem bl_cons {a b:UInt8}{x y:Name}:BL (a::x) (b::y)↔a.toNat<b.toNat∨(a.toNat=b.toNat∧BL x y):=by
 unfold BL;rw[Op.bytesLess,Bool.or_eq_true,Bool.and_eq_true,decide_eq_true_iff,beq_iff_eq,UInt8.lt_iff_toNat_lt,u8_eq]
theorem bl_irrefl:∀a:Name,¬BL a a
 |[]=>bl_nil []
 |a::x=>λh=>by
  rcases bl_cons.1 h with q|⟨_,q⟩
  ·omega
  ·exact bl_irrefl x q
theorem bl_trans:∀{a b c:Name},BL a b->BL b c->BL a c
 |_,[],_,h,_=>absurd h (bl_nil _)
 |_,_::_,[],_,h=>absurd h (bl_nil _)
 |[],_::_,_::_,_,_=>rfl
 |a::x,b::y,c::z,h,k=>by
  rw[bl_cons] at h k ⊢;rcases h with h|⟨h,h2⟩<;>rcases k with k|⟨k,k2⟩
  ·exact .inl (by omega)
  ·exact .inl (by omega)
  ·exact .inl (by omega)
  ·exact .inr ⟨by omega,bl_trans h2 k2⟩
theorem bl_total:∀a b:Name,BL a b∨a=b∨BL b a
 |[],[]=>.inr (.inl rfl)
 |[],_::_=>.inl rfl
 |_::_,[]=>.inr (.inr rfl)
 |a::x,b::y=>by
  rw[bl_cons,bl_cons];rcases Nat.lt_trichotomy a.toNat b.toNat with h|h|h
  ·exact .inl (.inl h)
  ·rcases bl_total x y with q|q|q
   ·exact .inl (.inr ⟨h,q⟩)
   ·exact .inr (.inl (by rw[u8_eq.2 h,q]))
   ·exact .inr (.inr (.inr ⟨h.symm,q⟩))
  ·exact .inr (.inr (.inl h))
def ML (a b:Mark):Prop:=a.2.2.toNat<b.2.2.toNat∨(a.2.2.toNat=b.2.2.toNat∧(a.1.1<b.1.1∨(a.1.1=b.1.1∧(a.1.2<b.1.2∨(a.1.2=b.1.2∧a.2.1<b.2.1)))))
instance (a b:Mark):Decidable (ML a b):=by unfold ML;infer_instance
theorem ml_irrefl (a:Mark):¬ML a a:=by unfold ML;omega
theorem ml_total (a b:Mark):ML a b∨a=b∨ML b a:=by
 by_cases h:ML a b
 ·exact .inl h
 by_cases k:ML b a
 ·exact .inr (.inr k)
 refine .inr (.inl ?_);obtain ⟨⟨a1,a2⟩,a3,a4⟩:=a;obtain ⟨⟨b1,b2⟩,b3,b4⟩:=b;unfold ML at h k;dsimp only at h k;have e1:a1=b1:=by omega
 have e2:a2=b2:=by omega
 have e3:a3=b3:=by omega
 have e4:a4=b4:=BitVec.eq_of_toNat_eq (by omega);rw[e1,e2,e3,e4]
def mcmp (a b:Mark):Int:=if ML a b then-1 else if ML b a then 1 else 0
theorem mcmp_ge (a b:Mark):mcmp a b≥0↔¬ML a b:=by
 unfold mcmp
 split
 ·rename_i h
  exact ⟨λq=>absurd q (by decide),λq=>absurd h q⟩
 ·rename_i h
  refine ⟨λ_=>h,λ_=>?_⟩
  split<;>decide
theorem pw_ext {α:Type}{R:α->α->Prop}(irr:∀a,¬R a a)(tr:∀{a b c},R a b->R b c->R a c):∀{l l':List α},l.Pairwise R->l'.Pairwise R->(∀x,x∈l↔x∈l')->l=l':=by
 intro l
 induction l with
 |nil=>
  intro l' _ _ h;cases l' with
  |nil=>rfl
  |cons b l'=>exact absurd ((h b).2 (by simp)) (by simp)
 |cons a l ih=>
  intro l' h1 h2 h;cases l' with
  |nil=>exact absurd ((h a).1 (by simp)) (by simp)
  |cons b l'=>
   have p1:=List.pairwise_cons.1 h1;have p2:=List.pairwise_cons.1 h2;have hab:a=b:=by
    rcases List.mem_cons.1 ((h a).1 (by simp)) with e|ha
    ·exact e
    ·rcases List.mem_cons.1 ((h b).2 (by simp)) with e|hb
     ·exact e.symm
     ·exact absurd (tr (p2.1 a ha) (p1.1 b hb)) (irr b)
   subst hab;rw[ih p1.2 p2.2];intro x
   constructor
   ·intro hx
    rcases List.mem_cons.1 ((h x).1 (List.mem_cons_of_mem _ hx)) with e|hx2
    ·subst e;exact absurd (p1.1 x hx) (irr x)
    ·exact hx2
   ·intro hx
    rcases List.mem_cons.1 ((h x).2 (List.mem_cons_of_mem _ hx)) with e|hx2
    ·subst e;exact absurd (p2.1 x hx) (irr x)
    ·exact hx2
theorem pw_two {α:Type}{R:α->α->Prop}{l:List α}(h:l.Pairwise R){x y:α}(hx:x∈l)(hy:y∈l):x=y∨R x y∨R y x:=by
 induction l with
 |nil=>cases hx
 |cons a l ih=>
  have p:=List.pairwise_cons.1 h;rcases List.mem_cons.1 hx with e|hx<;>rcases List.mem_cons.1 hy with e'|hy
  ·exact .inl (e.trans e'.symm)
  ·exact .inr (.inl (e ▸ p.1 y hy))
  ·exact .inr (.inr (e' ▸ p.1 x hx))
  ·exact ih p.2 hx hy
def cpt {α:Type}[DecidableEq α]:List α->List α
 |[]=>[]
 |[a]=>[a]
 |a::b::l=>if a=b then cpt (b::l) else a::cpt (b::l)
section
variable {α:Type}[DecidableEq α]
theorem cpt_mem:∀(l:List α) (x:α),x∈cpt l↔x∈l
 |[],x=>by simp[cpt]
 |[a],x=>by simp[cpt]
 |a::b::l,x=>by
  unfold cpt;have ih:=cpt_mem (b::l) x
  split
  ·rename_i h
   subst h;rw[ih]
   simp
  ·simp only[List.mem_cons,ih]
theorem cpt_head:∀(a:α) (l:List α),∃r,cpt (a::l)=a::r
 |a,[]=>⟨[],rfl⟩
 |a,b::l=>by
  unfold cpt
  split
  ·rename_i h
   subst h;exact cpt_head a l
  ·exact ⟨_,rfl⟩
theorem cpt_pw {R:α->α->Prop}(tr:∀{a b c},R a b->R b c->R a c):∀{l:List α},l.Pairwise (λa b=>¬R b a)->(∀a∈l,∀b∈l,R a b∨a=b∨R b a)->(cpt l).Pairwise R
 |[],_,_=>by simp[cpt]
 |[a],_,_=>by simp[cpt]
 |a::b::l,h,tot=>by
  have p:=List.pairwise_cons.1 h;have ih:=cpt_pw (R:=R) tr p.2 (λx hx y hy=>tot x (List.mem_cons_of_mem _ hx) y (List.mem_cons_of_mem _ hy));unfold cpt
  split
  ·exact ih
  ·rename_i hab
   refine List.pairwise_cons.2 ⟨?_,ih⟩;intro z hz;have hb:R a b:=by
    rcases tot a (by simp) b (by simp) with k|k|k
    ·exact k
    ·exact absurd k hab
    ·exact absurd k (p.1 b (by simp))
   obtain ⟨r,hr⟩:=cpt_head b l;rw[hr] at hz ih;rcases List.mem_cons.1 hz with rfl|hz
   ·exact hb
   ·exact tr hb ((List.pairwise_cons.1 ih).1 z hz)
theorem cpt_snoc:∀(xs:List α) (a b:α),cpt (xs++[a,b])=cpt (xs++[a])++(if a=b then [] else [b])
 |[],a,b=>by
  simp only[List.nil_append,cpt]
  split
  ·rename_i h;subst h;rfl
  ·rfl
 |[c],a,b=>by
  have ih:=cpt_snoc [] a b;simp only[List.nil_append] at ih;show cpt (c::a::[b])=cpt (c::a::[])++_;unfold cpt
  split
  ·exact ih
  ·rw [ih];rfl
 |c::e::xs,a,b=>by
  have ih:=cpt_snoc (e::xs) a b;show cpt (c::e::(xs++[a,b]))=cpt (c::e::(xs++[a]))++_;rw[cpt,cpt]
  split
  ·exact ih
  ·rw [List.cons_append]
   exact congrArg (c:: ·) ih
theorem cpt_take {l:List α}{n:Nat}(h1:1<=n)(h:n<l.length):cpt (l.take (n+1))=cpt (l.take n)++(if l[n-1]=l[n] then [] else [l[n]]):=by
 obtain ⟨m,rfl⟩:∃m,n=m+1:=⟨n-1,by omega⟩
 have e1:l.take (m+1)=l.take m++[l[m]]:=List.take_succ_eq_append_getElem (by omega);have e2:l.take (m+1+1)=l.take m++[l[m],l[m+1]]:=by
  rw[List.take_succ_eq_append_getElem h,e1,List.append_assoc]
  rfl
 rw[e2,e1,cpt_snoc]
 rfl
theorem cpt_distinct:∀{l:List α},(∀i,∀h:i+1<l.length,l[i]≠l[i+1])->cpt l=l
 |[],_=>rfl
 |[a],_=>rfl
 |a::b::l,h=>by
  have h0:a≠b:=h 0 (by simp);rw[cpt,if_neg h0,cpt_distinct (l:=b::l) (λi hi=>h (i+1) (by simpa using hi))]
theorem cpt_length:∀(l:List α),(cpt l).length<=l.length
 |[]=>by simp[cpt]
 |[a]=>by simp[cpt]
 |a::b::l=>by
  have ih:=cpt_length (b::l);rw[cpt]
  split
  ·simp at ih ⊢;omega
  ·simp at ih ⊢;omega
end
def nins (s:Name):List Name->List Name
 |[]=>[s]
 |a::l=>if a=s then a::l else if BL s a then s::a::l else a::nins s l
def nset (l:List Name):List Name:=l.foldr nins []
theorem nins_mem (s x:Name):∀l:List Name,x∈nins s l↔x=s∨x∈l
 |[]=>by simp[nins]
 |a::l=>by
  unfold nins
  split
  ·rename_i h
   subst h
   simp
  ·split
   ·simp
   ·rw [List.mem_cons,nins_mem s x l,List.mem_cons]
    constructor
    ·rintro (h|h|h)
     ·exact .inr (.inl h)
     ·exact .inl h
     ·exact .inr (.inr h)
    ·rintro (h|h|h)
     ·exact .inr (.inl h)
     ·exact .inl h
     ·exact .inr (.inr h)
theorem nins_pw (s:Name):∀{l:List Name},l.Pairwise BL->(nins s l).Pairwise BL
 |[],_=>by simp[nins]
 |a::l,h=>by
  have p:=List.pairwise_cons.1 h;unfold nins
  split
  ·exact h
  ·rename_i hn
   split
   ·rename_i hs
    refine List.pairwise_cons.2 ⟨?_,h⟩;intro z hz;rcases List.mem_cons.1 hz with e|hz
    ·rw [e];exact hs
    ·exact bl_trans hs (p.1 z hz)
   ·rename_i hs
    refine List.pairwise_cons.2 ⟨?_,nins_pw s p.2⟩;intro z hz;rcases (nins_mem s z l).1 hz with e|hz
    ·rw [e]
     rcases bl_total s a with q|q|q
     ·exact absurd q hs
     ·exact absurd q.symm hn
     ·exact q
    ·exact p.1 z hz
theorem nset_mem (x:Name):∀l:List Name,x∈nset l↔x∈l
 |[]=>by simp[nset]
 |a::l=>by
  show x∈nins a (nset l)↔_;rw[nins_mem,nset_mem x l,List.mem_cons]
theorem nset_pw:∀l:List Name,(nset l).Pairwise BL
 |[]=>List.Pairwise.nil
 |a::l=>nins_pw a (nset_pw l)
theorem nset_of {l l':List Name}(hp:l'.Perm l)(hs:l'.Pairwise (λa b=>¬BL b a)):cpt l'=nset l:=by
 refine pw_ext bl_irrefl bl_trans (cpt_pw (R:=BL) bl_trans hs λa _ b _=>bl_total a b) (nset_pw l) λx=>?_
 rw[cpt_mem,nset_mem];exact hp.mem_iff
theorem nset_len:∀l:List Name,(nset l).length<=l.length
 |[]=>by simp[nset]
 |a::l=>by
  have ih:=nset_len l;have key:∀k:List Name,(nins a k).length<=k.length+1:=by
   intro k
   induction k with
   |nil=>simp[nins]
   |cons b k ik=>
    unfold nins
    split
    ·simp
    ·split
     ·simp
     ·simp;omega
  show (nins a (nset l)).length<=_;have:=key (nset l)
  simp;omega
def DL (a b:Mark):Prop:=Dt.Less a.1 b.1
def Fn (l:List Mark):Prop:=∀m∈l,∀m'∈l,m.1=m'.1->m=m'
def mset (l:List Mark):List Mark:=(Dt.set (mdots l)).filterMap λd=>l.find? λm=>decide (m.1=d)
theorem mset_mem {l:List Mark}(h:Fn l)(m:Mark):m∈mset l↔m∈l:=by
 unfold mset;rw[List.mem_filterMap]
 constructor
 ·rintro ⟨d,_,hf⟩
  exact List.mem_of_find?_eq_some hf
 ·intro hm
  refine ⟨m.1,(Dt.set_mem _ _).2 (List.mem_map.2 ⟨m,hm,rfl⟩),?_⟩;cases hf:l.find? (λm'=>decide (m'.1=m.1)) with
  |none=>
   have:=List.find?_eq_none.1 hf m hm
   simp at this
  |some m'=>
   have h1:=List.mem_of_find?_eq_some hf;have h2:=List.find?_some hf;simp only[decide_eq_true_eq] at h2;rw[h m' h1 m hm h2]
theorem mset_pw (l:List Mark):(mset l).Pairwise DL:=by
 unfold mset;have hs:(Dt.set (mdots l)).Pairwise Dt.Less:=Dt.set_sset _;rw[List.pairwise_filterMap];refine hs.imp ?_;intro d e hde m hm m' hm';have h1:=List.find?_some hm;have h2:=List.find?_some hm';simp only[decide_eq_true_eq] at h1 h2;unfold DL;rw[h1,h2];exact hde
theorem mset_len (l:List Mark):(mset l).length<=l.length:=by
 have h1:(mset l).length<=(Dt.set (mdots l)).length:=List.length_filterMap_le _ _;have h2:=Dt.addAll_length (mdots l) [];have h3:(mdots l).length=l.length:=by simp[mdots]
 unfold Dt.set at h1;simp only[List.length_nil] at h2
 omega
theorem dl_irrefl (a:Mark):¬DL a a:=Dt.less_irrefl a.1
theorem dl_trans {a b c:Mark}(h:DL a b)(k:DL b c):DL a c:=Dt.less_trans h k
theorem mset_of {l l':List Mark}(hf:Fn l)(hp:l'.Perm l)(hs:l'.Pairwise (λa b=>¬DL b a)):cpt l'=mset l:=by
 refine pw_ext dl_irrefl dl_trans (cpt_pw (R:=DL) dl_trans hs λa ha b hb=>?_) (mset_pw l) λx=>?_
 ·rcases Dt.less_total a.1 b.1 with q|q|q
  ·exact .inl q
  ·exact .inr (.inl (hf a (hp.mem_iff.1 ha) b (hp.mem_iff.1 hb) q))
  ·exact .inr (.inr q)
 ·rw [cpt_mem,mset_mem hf]
  exact hp.mem_iff
end Go.Pn.Jn
end
section
namespace Go.Pn.Jn
open Go Go.Pn Go.Pn.Cn
theorem okD_iff {d:Dot}:okD d=true↔Dt.Valid d:=by unfold okD;exact decide_eq_true_iff
theorem has_iff {x:Ctx}{d:Dot}:ctxHas x d=true↔Dt.Valid d∧(d.2<=get x.1 d.1∨d∈x.2):=by
 unfold ctxHas vecHas;rw[Bool.or_eq_true,Bool.and_eq_true,Bool.and_eq_true,okD_iff,decide_eq_true_iff,decide_eq_true_iff]
 constructor
 ·rintro (⟨h,k⟩|⟨h,k⟩)
  ·exact ⟨h,.inl k⟩
  ·exact ⟨h,.inr k⟩
 ·rintro ⟨h,k|k⟩
  ·exact .inl ⟨h,k⟩
  ·exact .inr ⟨h,k⟩
structure Cmp (x:Ctx):Prop where
 ok:Vc.Ok x.1
 st:Dt.Sset x.2
 va:∀d∈x.2,Dt.Valid d
 far:∀d∈x.2,get x.1 d.1+1<d.2
structure Okx (x:Ctx):Prop where
 ok:Vc.Ok x.1
 st:Dt.Sset x.2
 va:∀d∈x.2,Dt.Valid d
theorem set_iff {l:List Dot}:Dt.isSet l=true↔Dt.Sset l:=by
 constructor
 ·intro h
  have:∀l:List Dot,Dt.isSet l=true->Dt.Sset l:=by
   intro l
   induction l with
   |nil=>intro _;exact List.Pairwise.nil
   |cons a l ih=>
    intro h;cases l with
    |nil=>exact List.pairwise_singleton _ _
    |cons b l=>
     unfold Dt.isSet at h;rw[Bool.and_eq_true,decide_eq_true_iff] at h;have ih:=ih h.2;refine List.pairwise_cons.2 ⟨λz hz=>?_,ih⟩;rcases List.mem_cons.1 hz with e|hz
     ·rw [e];exact h.1
     ·exact Dt.less_trans h.1 ((List.pairwise_cons.1 ih).1 z hz)
  exact this l h
 ·intro h
  refine Dt.isSet_yes λi hi=>?_
  exact List.pairwise_iff_getElem.1 h i (i+1) (by omega) hi (by omega)
theorem nany {α:Type}{p:α->Bool}{l:List α}:(!l.any p)=true↔∀x∈l,p x=false:=by
 constructor
 ·exact any_false
 ·intro h
  rw[Bool.not_eq_true',List.any_eq_false];intro x hx;rw[h x hx]
  decide
theorem badD_iff {d:Dot}:badD d=false↔Dt.Valid d:=by
 unfold badD;rw[Bool.not_eq_false'];exact okD_iff
theorem okx_iff {x:Ctx}:ctxValid x=true↔Okx x:=by
 unfold ctxValid;rw[Bool.and_eq_true,Bool.and_eq_true,Vc.ok_iff,set_iff,nany]
 constructor
 ·rintro ⟨h1,h2,h3⟩
  exact ⟨h1,h2,λd hd=>badD_iff.1 (h3 d hd)⟩
 ·rintro ⟨h1,h2,h3⟩
  exact ⟨h1,h2,λd hd=>badD_iff.2 (h3 d hd)⟩
theorem cmp_iff {x:Ctx}:isCompact x=true↔Cmp x:=by
 unfold isCompact;rw[Bool.and_eq_true,okx_iff,nany];unfold near
 constructor
 ·rintro ⟨h,k⟩
  exact ⟨h.ok,h.st,h.va,λd hd=>by have:=of_decide_eq_false (k d hd);omega⟩
 ·intro h
  exact ⟨⟨h.ok,h.st,h.va⟩,λd hd=>dF (by have:=h.far d hd;omega)⟩
theorem Cmp.okx {x:Ctx}(h:Cmp x):Okx x:=⟨h.ok,h.st,h.va⟩
theorem get_le {v:List Dot}(h:Vc.Ok v)(r:Int):get v r<=4294967295∧(get v r≠0->1<=r∧r<=65535):=by
 by_cases hz:get v r=0
 ·exact ⟨by omega,λq=>absurd hz q⟩
 ·obtain ⟨d,hd,rfl⟩:=Vc.get_some hz
  have hv:=h.2 d hd;rw[Vc.get_mem h hd];unfold Dt.Valid at hv;exact ⟨by omega,λ_=>by omega⟩
theorem cmp_ext {x y:Ctx}(hx:Cmp x)(hy:Cmp y)(h:∀d,ctxHas x d=true↔ctxHas y d=true):x=y:=by
 have key:∀{x y:Ctx},Cmp x->Cmp y->(∀d,ctxHas x d=true↔ctxHas y d=true)->∀r,get y.1 r<=get x.1 r:=by
  intro x y hx hy h r
  apply Classical.byContradiction
  intro hn;have h0:=Vc.get_ge hx.ok r;have h1:=get_le hy.ok r;have h2:=h1.2 (by omega);have hv:Dt.Valid (r,get x.1 r+1):=by unfold Dt.Valid;dsimp only;omega
  have hh:=(h (r,get x.1 r+1)).2 (has_iff.2 ⟨hv,.inl (by dsimp only;omega)⟩);rcases (has_iff.1 hh).2 with q|q
  ·dsimp only at q;omega
  ·have:=hx.far _ q
   dsimp only at this
   omega
 have e1:x.1=y.1:=Vc.ext hx.ok hy.ok λr=>Int.le_antisymm (key hy hx (λd=>(h d).symm) r) (key hx hy h r)
 have sub:∀{x y:Ctx},Cmp x->x.1=y.1->(∀d,ctxHas x d=true↔ctxHas y d=true)->∀d∈x.2,d∈y.2:=by
  intro x y hx e h d hd;have hh:=(h d).1 (has_iff.2 ⟨hx.va d hd,.inr hd⟩);rcases (has_iff.1 hh).2 with q|q
  ·have:=hx.far d hd
   rw[e] at this
   omega
  ·exact q
 have e2:x.2=y.2:=Dt.sset_ext hx.st hy.st λd=>⟨sub hx e1 h d,sub hy e1.symm (λd=>(h d).symm) d⟩
 exact Prod.ext e1 e2
def cstep (x:Ctx)(d:Dot):Ctx:=if d.2>get x.1 d.1+1 then (x.1,x.2++[d]) else if d.2=get x.1 d.1+1 then (Vc.mrg x.1 [d],x.2) else x
def ccompact (x:Ctx):Ctx:=x.2.foldl cstep (x.1,[])
theorem ok_one {d:Dot}(h:Dt.Valid d):Vc.Ok [d]:=⟨List.pairwise_singleton _ _,λe he=>by rw[List.mem_singleton.1 he];exact h⟩
theorem get_one (d:Dot)(r:Int):get [d] r=if d.1=r then d.2 else 0:=by rw[Vc.get_cons,Vc.get_nil]
theorem cstep_ok {x:Ctx}{d:Dot}(hx:Cmp x)(hd:Dt.Valid d)(hl:∀e∈x.2,Dt.Less e d):Cmp (cstep x d)∧(∀e,ctxHas (cstep x d) e=true↔ctxHas x e=true∨e=d)∧∀e∈(cstep x d).2,e∈x.2∨e=d:=by
 unfold cstep;have h0:=Vc.get_ge hx.ok d.1
 split
 ·rename_i hg
  refine ⟨⟨hx.ok,?_,?_,?_⟩,?_,?_⟩
  ·exact List.pairwise_append.2 ⟨hx.st,List.pairwise_singleton _ _,λa ha b hb=>by rw[List.mem_singleton.1 hb];exact hl a ha⟩
  ·intro e he
   rcases List.mem_append.1 he with q|q
   ·exact hx.va e q
   ·rw [List.mem_singleton.1 q];exact hd
  ·intro e he
   rcases List.mem_append.1 he with q|q
   ·exact hx.far e q
   ·rw [List.mem_singleton.1 q];exact hg
  ·intro e
   rw[has_iff,has_iff];dsimp only;rw[List.mem_append,List.mem_singleton]
   constructor
   ·rintro ⟨h1,h2|h2|h2⟩
    ·exact .inl ⟨h1,.inl h2⟩
    ·exact .inl ⟨h1,.inr h2⟩
    ·exact .inr h2
   ·rintro (⟨h1,h2|h2⟩|h2)
    ·exact ⟨h1,.inl h2⟩
    ·exact ⟨h1,.inr (.inl h2)⟩
    ·exact ⟨h2 ▸ hd,.inr (.inr h2)⟩
  ·intro e he
   rcases List.mem_append.1 he with q|q
   ·exact .inl q
   ·exact .inr (List.mem_singleton.1 q)
 ·split
  ·rename_i hg he
   have hm:=Vc.ok_mrg hx.ok (ok_one hd);have hget:=λr=>Vc.get_mrg hx.ok (ok_one hd) r
   have hne:∀e∈x.2,e.1≠d.1:=by
    intro e hm hq;have h1:=hx.far e hm;have h2:=hl e hm;unfold Dt.Less at h2;rw[hq] at h1 h2
    omega
   refine ⟨⟨hm,hx.st,hx.va,?_⟩,?_,λe he=>.inl he⟩
   ·intro e hm
    have h1:=hx.far e hm;have h3:=hne e hm;dsimp only;rw[hget,get_one,if_neg λq=>h3 q.symm];have:=Vc.get_ge hx.ok e.1
    omega
   ·intro e
    rw[has_iff,has_iff];dsimp only;rw[hget,get_one]
    constructor
    ·rintro ⟨h1,h2|h2⟩
     ·split at h2
      ·rename_i hq
       by_cases hc:e.2<=get x.1 e.1
       ·exact .inl ⟨h1,.inl hc⟩
       ·refine .inr (Prod.ext hq.symm ?_)
        rw[<-hq] at hc h2
        omega
      ·refine .inl ⟨h1,.inl ?_⟩
       have:=Vc.get_ge hx.ok e.1
       omega
     ·exact .inl ⟨h1,.inr h2⟩
    ·rintro (⟨h1,h2|h2⟩|h2)
     ·exact ⟨h1,.inl (by omega)⟩
     ·exact ⟨h1,.inr h2⟩
     ·subst h2
      exact ⟨hd,.inl (by rw[if_pos rfl];omega)⟩
  ·rename_i hg he
   refine ⟨hx,λe=>⟨.inl,?_⟩,λe he=>.inl he⟩;rintro (h|h)
   ·exact h
   ·subst h
    exact has_iff.2 ⟨hd,.inl (by omega)⟩
theorem cfold_ok:∀(l:List Dot) {x:Ctx},Cmp x->(∀d∈l,Dt.Valid d)->Dt.Sset l->(∀e∈x.2,∀d∈l,Dt.Less e d)->Cmp (l.foldl cstep x)∧∀e,ctxHas (l.foldl cstep x) e=true↔ctxHas x e=true∨e∈l
 |[],x,hx,_,_,_=>⟨hx,λe=>by simp⟩
 |d::l,x,hx,hv,hs,hl=>by
  have p:=List.pairwise_cons.1 hs;obtain ⟨h1,h2,h3⟩:=cstep_ok hx (hv d (.head _)) λe he=>hl e he d (.head _)
  obtain ⟨h4,h5⟩:=cfold_ok l h1 (λe he=>hv e (.tail _ he)) p.2 λe he f hf=>by
   rcases h3 e he with q|q
   ·exact hl e q f (.tail _ hf)
   ·rw [q];exact p.1 f hf
  refine ⟨h4,λe=>?_⟩;rw[List.foldl_cons,h5,h2,List.mem_cons]
  constructor
  ·rintro ((h|h)|h)
   ·exact .inl h
   ·exact .inr (.inl h)
   ·exact .inr (.inr h)
  ·rintro (h|h|h)
   ·exact .inl (.inl h)
   ·exact .inl (.inr h)
   ·exact .inr h
theorem ccompact_ok {x:Ctx}(h:Okx x):Cmp (ccompact x)∧∀e,ctxHas (ccompact x) e=true↔ctxHas x e=true:=by
 obtain ⟨h1,h2⟩:=cfold_ok x.2 (x:=(x.1,[])) ⟨h.ok,List.Pairwise.nil,by simp,by simp⟩ h.va h.st (by simp);refine ⟨h1,λe=>?_⟩;unfold ccompact;rw[h2,has_iff,has_iff]
 constructor
 ·rintro (⟨q,k|k⟩|q)
  ·exact ⟨q,.inl k⟩
  ·cases k
  ·exact ⟨h.va e q,.inr q⟩
 ·rintro ⟨q,k|k⟩
  ·exact .inl ⟨q,.inl k⟩
  ·exact .inr k
theorem mg_mem:∀(n:Nat) (x y:List Dot),x.length+y.length<=n->∀d,d∈Dt.mg true true true n x y↔d∈x∨d∈y:=by
 intro n
 induction n with
 |zero=>
  intro x y h d;have hx:x=[]:=List.eq_nil_of_length_eq_zero (by omega);have hy:y=[]:=List.eq_nil_of_length_eq_zero (by omega);subst hx hy
  simp[Dt.mg]
 |succ n ih=>
  intro x y h d;cases x with
  |nil=>
   cases y with
   |nil=>simp[Dt.mg]
   |cons b y=>
    rw[Dt.mg,if_pos rfl,List.mem_append,ih [] y (by simp at h ⊢;omega)]
    simp
  |cons a x=>
   cases y with
   |nil=>
    rw[Dt.mg,if_pos rfl,List.mem_append,ih x [] (by simp at h ⊢;omega)]
    simp
   |cons b y=>
    simp only[List.length_cons] at h;rw[Dt.mg]
    split
    ·rw [if_pos rfl,List.mem_append,ih x (b::y) (by simp;omega)]
     simp only[List.mem_cons,List.not_mem_nil,or_false];exact or_assoc.symm
    ·split
     ·rw [if_pos rfl,List.mem_append,ih (a::x) y (by simp;omega)]
      simp only[List.mem_cons,List.not_mem_nil,or_false]
      constructor
      ·rintro (q|q|q)
       ·exact .inr (.inl q)
       ·exact .inl q
       ·exact .inr (.inr q)
      ·rintro (q|q|q)
       ·exact .inr (.inl q)
       ·exact .inl q
       ·exact .inr (.inr q)
     ·rename_i h1 h2
      have hab:a=b:=by
       rcases Dt.less_total a b with q|q|q
       ·exact absurd q h1
       ·exact q
       ·exact absurd q h2
      subst hab;rw[if_pos rfl,List.mem_append,ih x y (by omega)];simp only[List.mem_cons,List.not_mem_nil,or_false]
      constructor
      ·rintro (q|q|q)
       ·exact .inl (.inl q)
       ·exact .inl (.inr q)
       ·exact .inr (.inr q)
      ·rintro ((q|q)|(q|q))
       ·exact .inl q
       ·exact .inr (.inl q)
       ·exact .inl q
       ·exact .inr (.inr q)
theorem mg_sset:∀(n:Nat) (x y:List Dot),x.length+y.length<=n->Dt.Sset x->Dt.Sset y->Dt.Sset (Dt.mg true true true n x y):=by
 intro n
 induction n with
 |zero=>intro x y _ _ _;simp[Dt.mg,Dt.Sset]
 |succ n ih=>
  intro x y h hx hy;cases x with
  |nil=>
   cases y with
   |nil=>simp[Dt.mg,Dt.Sset]
   |cons b y=>
    have p:=List.pairwise_cons.1 hy;rw[Dt.mg,if_pos rfl];refine List.pairwise_cons.2 ⟨λz hz=>?_,ih [] y (by simp at h ⊢;omega) hx p.2⟩;rcases (mg_mem n [] y (by simp at h ⊢;omega) z).1 hz with q|q
    ·cases q
    ·exact p.1 z q
  |cons a x=>
   have px:=List.pairwise_cons.1 hx;cases y with
   |nil=>
    rw[Dt.mg,if_pos rfl];refine List.pairwise_cons.2 ⟨λz hz=>?_,ih x [] (by simp at h ⊢;omega) px.2 hy⟩;rcases (mg_mem n x [] (by simp at h ⊢;omega) z).1 hz with q|q
    ·exact px.1 z q
    ·cases q
   |cons b y=>
    have py:=List.pairwise_cons.1 hy;simp only[List.length_cons] at h;rw[Dt.mg]
    split
    ·rename_i h1
     rw[if_pos rfl];refine List.pairwise_cons.2 ⟨λz hz=>?_,ih x (b::y) (by simp;omega) px.2 hy⟩;rcases (mg_mem n x (b::y) (by simp;omega) z).1 hz with q|q
     ·exact px.1 z q
     ·rcases List.mem_cons.1 q with q|q
      ·rw [q];exact h1
      ·exact Dt.less_trans h1 (py.1 z q)
    ·split
     ·rename_i h1 h2
      rw[if_pos rfl];refine List.pairwise_cons.2 ⟨λz hz=>?_,ih (a::x) y (by simp;omega) hx py.2⟩;rcases (mg_mem n (a::x) y (by simp;omega) z).1 hz with q|q
      ·rcases List.mem_cons.1 q with q|q
       ·rw [q];exact h2
       ·exact Dt.less_trans h2 (px.1 z q)
      ·exact py.1 z q
     ·rename_i h1 h2
      have hab:a=b:=by
       rcases Dt.less_total a b with q|q|q
       ·exact absurd q h1
       ·exact q
       ·exact absurd q h2
      subst hab;rw[if_pos rfl];refine List.pairwise_cons.2 ⟨λz hz=>?_,ih x y (by omega) px.2 py.2⟩;rcases (mg_mem n x y (by omega) z).1 hz with q|q
      ·exact px.1 z q
      ·exact py.1 z q
def dunion (a b:List Dot):List Dot:=Dt.merge true true true (Dt.set a) (Dt.set b)
theorem dunion_mem (a b:List Dot)(d:Dot):d∈dunion a b↔d∈a∨d∈b:=by
 unfold dunion Dt.merge;rw[mg_mem _ _ _ (Nat.le_refl _),Dt.set_mem,Dt.set_mem]
theorem dunion_sset (a b:List Dot):Dt.Sset (dunion a b):=mg_sset _ _ _ (Nat.le_refl _) (Dt.set_sset _) (Dt.set_sset _)
def cunion (a b:Ctx):Ctx:=ccompact (Vc.mrg a.1 b.1,dunion a.2 b.2)
theorem okx_union {a b:Ctx}(ha:Okx a)(hb:Okx b):Okx (Vc.mrg a.1 b.1,dunion a.2 b.2):=
 ⟨Vc.ok_mrg ha.ok hb.ok,dunion_sset _ _,λd hd=>((dunion_mem _ _ d).1 hd).elim (ha.va d) (hb.va d)⟩
theorem cunion_ok {a b:Ctx}(ha:Okx a)(hb:Okx b):Cmp (cunion a b)∧∀e,ctxHas (cunion a b) e=true↔ctxHas a e=true∨ctxHas b e=true:=by
 obtain ⟨h1,h2⟩:=ccompact_ok (okx_union ha hb);refine ⟨h1,λe=>?_⟩;unfold cunion;rw[h2,has_iff,has_iff,has_iff];dsimp only;rw[Vc.get_mrg ha.ok hb.ok,dunion_mem]
 constructor
 ·rintro ⟨q,k|k|k⟩
  ·by_cases hk:e.2<=get a.1 e.1
   ·exact .inl ⟨q,.inl hk⟩
   ·exact .inr ⟨q,.inl (by omega)⟩
  ·exact .inl ⟨q,.inr k⟩
  ·exact .inr ⟨q,.inr k⟩
 ·rintro (⟨q,k|k⟩|⟨q,k|k⟩)
  ·exact ⟨q,.inl (by omega)⟩
  ·exact ⟨q,.inr (.inl k)⟩
  ·exact ⟨q,.inl (by omega)⟩
  ·exact ⟨q,.inr (.inr k)⟩
theorem dunion_len (a b:List Dot):(dunion a b).length<=a.length+b.length:=by
 have key:∀(n:Nat) (x y:List Dot),(Dt.mg true true true n x y).length<=x.length+y.length:=by
  intro n
  induction n with
  |zero=>intro x y;simp[Dt.mg]
  |succ n ih=>
   intro x y;cases x with
   |nil=>
    cases y with
    |nil=>simp[Dt.mg]
    |cons b y=>rw[Dt.mg,if_pos rfl];have:=ih [] y;simp at this ⊢;omega
   |cons a x=>
    cases y with
    |nil=>rw[Dt.mg,if_pos rfl];have:=ih x [];simp at this ⊢;omega
    |cons b y=>
     rw[Dt.mg]
     split
     ·have:=ih x (b::y);simp at this ⊢;omega
     ·split
      ·have:=ih (a::x) y;simp at this ⊢;omega
      ·have:=ih x y;simp at this ⊢;omega
 have h1:=key ((Dt.set a).length+(Dt.set b).length) (Dt.set a) (Dt.set b);have h2:=Dt.addAll_length a [];have h3:=Dt.addAll_length b [];unfold dunion Dt.merge;unfold Dt.set at*;simp only[List.length_nil] at h2 h3
 omega
theorem cstep_len (x:Ctx)(d:Dot):(cstep x d).1.length<=x.1.length+1∧(cstep x d).2.length<=x.2.length+1:=by
 unfold cstep
 split
 ·simp
 ·split
  ·have:=Vc.of_len (x.1++[d])
   unfold Vc.mrg
   simp at this ⊢
   omega
  ·omega
theorem cfold_len:∀(l:List Dot) (x:Ctx),(l.foldl cstep x).1.length<=x.1.length+l.length∧(l.foldl cstep x).2.length<=x.2.length+l.length
 |[],x=>by simp
 |d::l,x=>by
  have h1:=cstep_len x d;have h2:=cfold_len l (cstep x d);rw[List.foldl_cons,List.length_cons]
  omega
theorem ccompact_len (x:Ctx):(ccompact x).1.length<=x.1.length+x.2.length∧(ccompact x).2.length<=x.2.length:=by
 have:=cfold_len x.2 (x.1,[]);unfold ccompact;simp only[List.length_nil] at this
 omega
theorem cunion_len (a b:Ctx):(cunion a b).1.length<=a.1.length+b.1.length+(a.2.length+b.2.length)∧(cunion a b).2.length<=a.2.length+b.2.length:=by
 have h1:=ccompact_len (Vc.mrg a.1 b.1,dunion a.2 b.2);have h2:=dunion_len a.2 b.2;have h3:=Vc.of_len (a.1++b.1);unfold cunion;unfold Vc.mrg at*;simp only[List.length_append] at h1 h3
 omega
theorem cstep_dots (x:Ctx)(d:Dot):(cstep x d).1.length+(cstep x d).2.length<=x.1.length+x.2.length+1:=by
 unfold cstep
 split
 ·simp;omega
 ·split
  ·have:=Vc.of_len (x.1++[d])
   unfold Vc.mrg
   simp at this ⊢
   omega
  ·omega
theorem cfold_dots:∀(l:List Dot) (x:Ctx),(l.foldl cstep x).1.length+(l.foldl cstep x).2.length<=x.1.length+x.2.length+l.length
 |[],x=>by simp
 |d::l,x=>by
  have h1:=cstep_dots x d;have h2:=cfold_dots l (cstep x d);rw[List.foldl_cons,List.length_cons]
  omega
end Go.Pn.Jn
end
section
namespace Go.Pn.Jn
open Go Go.Pn Go.Pn.Cn
theorem sub_len {α:Type}[DecidableEq α]:∀{s l:List α},s.Nodup->(∀x∈s,x∈l)->s.length<=l.length
 |[],_,_,_=>Nat.zero_le _
 |a::s,l,h,k=>by
  have p:=List.nodup_cons.1 h;have ha:=k a (.head _);have:=sub_len (s:=s) (l:=l.erase a) p.2 λx hx=>(List.mem_erase_of_ne (λq=>p.1 (by rw[<-q];exact hx))).2 (k x (.tail _ hx))
  rw[List.length_erase_of_mem ha] at this;have hl:0<l.length:=List.length_pos_of_mem ha;simp only[List.length_cons]
  omega
theorem not_once {α:Type}[DecidableEq α]:∀{l:List α},¬l.Nodup->∃l':List α,l'.length<l.length∧∀x∈l,x∈l'
 |[],h=>absurd List.nodup_nil h
 |a::l,h=>by
  by_cases ha:a∈l
  ·exact ⟨l,by simp,λx hx=>(List.mem_cons.1 hx).elim (λq=>q ▸ ha) id⟩
  ·obtain ⟨l',h1,h2⟩:=not_once (l:=l) λq=>h (List.nodup_cons.2 ⟨ha,q⟩)
   refine ⟨a::l',by simp;omega,λx hx=>?_⟩;rcases List.mem_cons.1 hx with q|q
   ·exact q ▸ .head _
   ·exact .tail _ (h2 x q)
theorem sset_nodup {l:List Dot}(h:Dt.Sset l):l.Nodup:=by
 refine List.Pairwise.imp ?_ h;intro a b q e;rw[e] at q;exact Dt.less_irrefl _ q
theorem once_iff {l:List Dot}:(Dt.set l).length=l.length↔l.Nodup:=by
 have hn:=sset_nodup (Dt.set_sset l)
 constructor
 ·intro h
  apply Classical.byContradiction
  intro hc;obtain ⟨l',h1,h2⟩:=not_once hc;have:=sub_len hn λx hx=>h2 x ((Dt.set_mem l x).1 hx)
  omega
 ·intro h
  have h1:=sub_len hn λx hx=>(Dt.set_mem l x).1 hx
  have h2:=sub_len h λx hx=>(Dt.set_mem l x).2 hx
  omega
def In (l:List Item)(s:Name)(m:Mark):Prop:=∃x∈l,x.1=s∧m∈x.2
structure GoodC (c:Cart):Prop where
 cx:Cmp c.1
 nm:c.2.Pairwise (λa b=>BL a.1 b.1)
 ok:∀x∈c.2,okName x.1=true∧x.2≠[]∧Dt.Sset (mdots x.2)∧∀m∈x.2,okM m=true
 un:∀s s' m m',In c.2 s m->In c.2 s' m'->m.1=m'.1->s=s'∧m=m'
 mi:∀s m,In c.2 s m->ctxHas c.1 m.1=true
theorem names_iff {l:List Item}:names l=true↔l.Pairwise (λa b=>BL a.1 b.1):=by
 unfold names
 constructor
 ·have:∀l:List Item,adj (λa b=>Op.bytesLess a.1 b.1) l=true->l.Pairwise (λa b=>BL a.1 b.1):=by
   intro l
   induction l with
   |nil=>intro _;exact List.Pairwise.nil
   |cons a l ih=>
    intro h;cases l with
    |nil=>exact List.pairwise_singleton _ _
    |cons b l=>
     unfold adj at h;rw[Bool.and_eq_true] at h;have ih:=ih h.2;refine List.pairwise_cons.2 ⟨λz hz=>?_,ih⟩;rcases List.mem_cons.1 hz with e|hz
     ·rw [e];exact h.1
     ·exact bl_trans (a:=a.1) h.1 ((List.pairwise_cons.1 ih).1 z hz)
  exact this l
 ·intro h
  exact adj_yes λi hi=>List.pairwise_iff_getElem.1 h i (i+1) (by omega) hi (by omega)
theorem badI_iff {x:Item}:badI x=false↔okName x.1=true∧x.2≠[]∧Dt.Sset (mdots x.2)∧∀m∈x.2,okM m=true:=by
 unfold badI;rw[Bool.or_eq_false_iff,Bool.or_eq_false_iff,Bool.or_eq_false_iff,Bool.not_eq_false',Bool.not_eq_false',set_iff,decide_eq_false_iff_not,List.any_eq_false];unfold badM
 constructor
 ·rintro ⟨h1,h2,h3,h4⟩
  refine ⟨h1,λq=>h2 (by rw[q];rfl),h3,λm hm=>?_⟩;have:=h4 m hm
  simpa using this
 ·rintro ⟨h1,h2,h3,h4⟩
  refine ⟨h1,λq=>h2 (List.eq_nil_of_length_eq_zero q),h3,λm hm=>?_⟩;rw[h4 m hm]
  decide
theorem mdots_inj {l:List Mark}(h:(mdots l).Nodup){m m':Mark}(hm:m∈l)(hm':m'∈l)(e:m.1=m'.1):m=m':=by
 have h2:l.Pairwise (λa b=>a.1≠b.1):=by
  unfold mdots at h;exact List.pairwise_map.1 h
 rcases pw_two h2 hm hm' with q|q|q
 ·exact q
 ·exact absurd e q
 ·exact absurd e.symm q
theorem flat_once {l:List Item}(ok:∀x∈l,Dt.Sset (mdots x.2))(nm:l.Pairwise (λa b=>BL a.1 b.1)):(l.flatMap λx=>mdots x.2).Nodup↔∀s s' m m',In l s m->In l s' m'->m.1=m'.1->s=s'∧m=m':=by
 constructor
 ·intro h
  have h2:=List.pairwise_flatMap.1 h;rintro s s' m m' ⟨x,hx,rfl,hm⟩ ⟨y,hy,rfl,hm'⟩ e;rcases pw_two h2.2 hx hy with q|q|q
  ·subst q
   exact ⟨rfl,mdots_inj (h2.1 x hx) hm hm' e⟩
  ·exact absurd e (q m.1 (List.mem_map.2 ⟨m,hm,rfl⟩) m'.1 (List.mem_map.2 ⟨m',hm',rfl⟩))
  ·exact absurd e.symm (q m'.1 (List.mem_map.2 ⟨m',hm',rfl⟩) m.1 (List.mem_map.2 ⟨m,hm,rfl⟩))
 ·intro h
  refine List.pairwise_flatMap.2 ⟨λx hx=>sset_nodup (ok x hx),?_⟩;refine (List.pairwise_iff_forall_sublist.2 ?_);intro x y hxy d hd e he q;obtain ⟨m,hm,rfl⟩:=List.mem_map.1 hd;obtain ⟨m',hm',rfl⟩:=List.mem_map.1 he;have hx:x∈l:=hxy.subset (by simp);have hy:y∈l:=hxy.subset (by simp);have h1:=(h x.1 y.1 m m' ⟨x,hx,rfl,hm⟩ ⟨y,hy,rfl,hm'⟩ q).1;have h2:=List.pairwise_iff_forall_sublist.1 nm hxy;rw[h1] at h2;exact bl_irrefl _ h2
theorem flat_count (l:List Item):(l.flatMap λx=>mdots x.2).length=count l:=by
 induction l with
 |nil=>rfl
 |cons x l ih=>
  rw[List.flatMap_cons,List.length_append,ih];unfold count mdots
  simp
theorem good_iff {c:Cart}:valid c=true↔GoodC c:=by
 unfold valid itemsValid;rw[Bool.and_eq_true,Bool.and_eq_true,Bool.and_eq_true,Bool.and_eq_true,cmp_iff,nany,names_iff,decide_eq_true_iff,decide_eq_true_iff,<-flat_count];unfold dotsOf;rw[once_iff];have hmiss:(missing c.1 (Dt.set (c.2.flatMap λx=>mdots x.2))).length=0↔∀s m,In c.2 s m->ctxHas c.1 m.1=true:=by
  unfold missing;rw[List.length_eq_zero_iff,List.filter_eq_nil_iff]
  constructor
  ·rintro h s m ⟨x,hx,rfl,hm⟩
   have:=h m.1 ((Dt.set_mem _ _).2 ((Dt.set_mem _ _).2 (List.mem_flatMap.2 ⟨x,hx,List.mem_map.2 ⟨m,hm,rfl⟩⟩)))
   simpa using this
  ·intro h d hd
   obtain ⟨x,hx,hm⟩:=List.mem_flatMap.1 ((Dt.set_mem _ _).1 ((Dt.set_mem _ _).1 hd));obtain ⟨m,hm2,rfl⟩:=List.mem_map.1 hm;rw[h x.1 m ⟨x,hx,rfl,hm2⟩]
   decide
 rw[hmiss]
 constructor
 ·rintro ⟨h1,⟨h2,h3,h4⟩,h5⟩
  have ok:=λx hx=>badI_iff.1 (h2 x hx)
  exact ⟨h1,h3,ok,(flat_once (λx hx=>(ok x hx).2.2.1) h3).1 h4,h5⟩
 ·intro h
  exact ⟨h.cx,⟨λx hx=>badI_iff.2 (h.ok x hx),h.nm,(flat_once (λx hx=>(h.ok x hx).2.2.1) h.nm).2 h.un⟩,h.mi⟩
theorem item_ext {l l':List Mark}(h:Dt.Sset (mdots l))(h':Dt.Sset (mdots l'))(e:∀m,m∈l↔m∈l'):l=l':=
 pw_ext (R:=DL) dl_irrefl dl_trans ((List.pairwise_map (f:=λm:Mark=>m.1) (R:=Dt.Less)).1 h) ((List.pairwise_map (f:=λm:Mark=>m.1) (R:=Dt.Less)).1 h') e
theorem good_ext {a b:Cart}(ha:GoodC a)(hb:GoodC b)(h1:∀d,ctxHas a.1 d=true↔ctxHas b.1 d=true)(h2:∀s m,In a.2 s m↔In b.2 s m):a=b:=by
 refine Prod.ext (cmp_ext ha.cx hb.cx h1) ?_;have key:∀{a b:Cart},GoodC a->GoodC b->(∀s m,In a.2 s m↔In b.2 s m)->∀x∈a.2,x∈b.2:=by
  intro a b ha hb h x hx;obtain ⟨m,hm⟩:=List.exists_mem_of_ne_nil x.2 (ha.ok x hx).2.1;obtain ⟨y,hy,e,_⟩:=(h x.1 m).1 ⟨x,hx,rfl,hm⟩;have e2:y.2=x.2:=by
   refine item_ext (hb.ok y hy).2.2.1 (ha.ok x hx).2.2.1 λm=>?_
   have once:∀{c:Cart},GoodC c->∀z∈c.2,∀z'∈c.2,z.1=z'.1->z=z':=by
    intro c hc z hz z' hz' q;rcases pw_two hc.nm hz hz' with k|k|k
    ·exact k
    ·rw [q] at k;exact absurd k (bl_irrefl _)
    ·rw [q] at k;exact absurd k (bl_irrefl _)
   constructor
   ·intro hm
    obtain ⟨z,hz,q,hz2⟩:=(h y.1 m).2 ⟨y,hy,rfl,hm⟩;rw[once ha x hx z hz (by rw[q,e])];exact hz2
   ·intro hm
    obtain ⟨z,hz,q,hz2⟩:=(h x.1 m).1 ⟨x,hx,rfl,hm⟩;rw[once hb y hy z hz (by rw[q,e])];exact hz2
  have:y=x:=Prod.ext e e2;exact this ▸ hy
 exact pw_ext (R:=λa b:Item=>BL a.1 b.1) (λa=>bl_irrefl a.1) (λh k=>bl_trans h k) ha.nm hb.nm λx=>⟨key ha hb h2 x,key hb ha (λs m=>(h2 s m).symm) x⟩
def marks (l:List Item)(s:Name):List Mark:=match l.find? (λx=>decide (x.1=s)) with
 |some x=>x.2
 |none=>[]
def keeps (o:List Mark)(x:Ctx)(m:Mark):Bool:=match o.find? (λy=>decide (y.1=m.1)) with
 |some y=> !decide (ML m y)
 |none=> !ctxHas x m.1
def stay (l o:List Mark)(x:Ctx):List Mark:=l.filter (keeps o x)
def both (a b:Cart)(s:Name):List Mark:=stay (marks a.2 s) (marks b.2 s) b.1++stay (marks b.2 s) (marks a.2 s) a.1
def item (a b:Cart)(s:Name):Item:=(s,mset (both a b s))
def namesOf (c:Cart):List Name:=c.2.map (·.1)
def allNames (a b:Cart):List Name:=nset (namesOf a++namesOf b)
def jitems (a b:Cart)(l:List Name):List Item:=(l.map (item a b)).filter λx=>decide (0<x.2.length)
def join (a b:Cart):Cart:=(cunion a.1 b.1,jitems a b (allNames a b))
theorem marks_mem {c:Cart}(h:GoodC c)(s:Name)(m:Mark):m∈marks c.2 s↔In c.2 s m:=by
 unfold marks;cases hf:c.2.find? (λx=>decide (x.1=s)) with
 |none=>
  constructor
  ·intro q;cases q
  ·rintro ⟨x,hx,e,_⟩
   have:=List.find?_eq_none.1 hf x hx;rw[e] at this
   simp at this
 |some x=>
  have h1:=List.mem_of_find?_eq_some hf;have h2:=List.find?_some hf;simp only[decide_eq_true_eq] at h2
  constructor
  ·intro q;exact ⟨x,h1,h2,q⟩
  ·rintro ⟨y,hy,e,hm⟩
   rcases pw_two h.nm h1 hy with k|k|k
   ·rw [k];exact hm
   ·rw [h2,e] at k;exact absurd k (bl_irrefl _)
   ·rw [h2,e] at k;exact absurd k (bl_irrefl _)
def Stays (b:Cart)(s:Name)(m:Mark):Prop:=ctxHas b.1 m.1=false∨∃m',In b.2 s m'∧m'.1=m.1∧¬ML m m'
theorem keeps_iff {b:Cart}(hb:GoodC b)(s:Name)(m:Mark):keeps (marks b.2 s) b.1 m=true↔Stays b s m:=by
 unfold keeps Stays;cases hf:(marks b.2 s).find? (λy=>decide (y.1=m.1)) with
 |none=>
  dsimp only;rw[Bool.not_eq_true']
  constructor
  ·exact .inl
  ·rintro (q|⟨m',h1,h2,_⟩)
   ·exact q
   ·have:=List.find?_eq_none.1 hf m' ((marks_mem hb s m').2 h1)
    rw[h2] at this
    simp at this
 |some y=>
  have h1:=(marks_mem hb s y).1 (List.mem_of_find?_eq_some hf);have h2:=List.find?_some hf;simp only[decide_eq_true_eq] at h2;dsimp only;rw[Bool.not_eq_true',decide_eq_false_iff_not]
  constructor
  ·intro q;exact .inr ⟨y,h1,h2,q⟩
  ·rintro (q|⟨m',k1,k2,k3⟩)
   ·have:=hb.mi s y h1
    rw[h2,q] at this;cases this
   ·rw [(hb.un s s y m' h1 k1 (h2.trans k2.symm)).2]
    exact k3
def JIn (a b:Cart)(s:Name)(m:Mark):Prop:=(In a.2 s m∧Stays b s m)∨(In b.2 s m∧Stays a s m)
theorem both_mem {a b:Cart}(ha:GoodC a)(hb:GoodC b)(s:Name)(m:Mark):m∈both a b s↔JIn a b s m:=by
 unfold both stay JIn;rw[List.mem_append,List.mem_filter,List.mem_filter,marks_mem ha,marks_mem hb,keeps_iff hb,keeps_iff ha]
theorem jin_un {a b:Cart}(ha:GoodC a)(hb:GoodC b){s s':Name}{m m':Mark}(h:JIn a b s m)(k:JIn a b s' m')(e:m.1=m'.1):s=s'∧m=m':=by
 have cross:∀{a b:Cart},GoodC a->GoodC b->∀{s s':Name} {m m':Mark},In a.2 s m->Stays b s m->In b.2 s' m'->Stays a s' m'->m.1=m'.1->s=s'∧m=m':=by
  intro a b ha hb s s' m m' h1 h2 k1 k2 e;rcases h2 with h2|⟨n,n1,n2,n3⟩
  ·have:=hb.mi s' m' k1
   rw[<-e,h2] at this;cases this
  ·rcases k2 with k2|⟨n',n1',n2',n3'⟩
   ·have:=ha.mi s m h1
    rw[e,k2] at this;cases this
   ·obtain ⟨q1,q2⟩:=hb.un s s' n m' n1 k1 (n2.trans e)
    obtain ⟨q3,q4⟩:=ha.un s s' m n' h1 n1' (e.trans n2'.symm);refine ⟨q1,?_⟩;rw[q2] at n3;rw[<-q4] at n3';rcases ml_total m m' with q|q|q
    ·exact absurd q n3
    ·exact q
    ·exact absurd q n3'
 rcases h with ⟨h1,h2⟩|⟨h1,h2⟩<;>rcases k with ⟨k1,k2⟩|⟨k1,k2⟩
 ·exact ha.un _ _ _ _ h1 k1 e
 ·exact cross ha hb h1 h2 k1 k2 e
 ·obtain ⟨q1,q2⟩:=cross ha hb k1 k2 h1 h2 e.symm
  exact ⟨q1.symm,q2.symm⟩
 ·exact hb.un _ _ _ _ h1 k1 e
theorem both_fn {a b:Cart}(ha:GoodC a)(hb:GoodC b)(s:Name):Fn (both a b s):=λm hm m' hm' e=>(jin_un ha hb ((both_mem ha hb s m).1 hm) ((both_mem ha hb s m').1 hm') e).2
theorem jin_in {a b:Cart}{s:Name}{m:Mark}(h:JIn a b s m):In a.2 s m∨In b.2 s m:=h.elim (λq=>.inl q.1) (λq=>.inr q.1)
theorem join_in {a b:Cart}(ha:GoodC a)(hb:GoodC b)(s:Name)(m:Mark):In (join a b).2 s m↔JIn a b s m:=by
 unfold join jitems;dsimp only
 constructor
 ·rintro ⟨x,hx,rfl,hm⟩
  obtain ⟨t,_,rfl⟩:=List.mem_map.1 (List.mem_filter.1 hx).1;unfold item at hm ⊢;exact (both_mem ha hb _ m).1 ((mset_mem (both_fn ha hb _) m).1 hm)
 ·intro h
  have hm:m∈(item a b s).2:=(mset_mem (both_fn ha hb _) m).2 ((both_mem ha hb s m).2 h);refine ⟨item a b s,List.mem_filter.2 ⟨List.mem_map.2 ⟨s,?_,rfl⟩,dT (List.length_pos_of_mem hm)⟩,rfl,hm⟩;refine (nset_mem _ _).2 (List.mem_append.2 ?_);rcases jin_in h with ⟨x,hx,e,_⟩|⟨x,hx,e,_⟩
  ·exact .inl (List.mem_map.2 ⟨x,hx,e⟩)
  ·exact .inr (List.mem_map.2 ⟨x,hx,e⟩)
theorem in_okM {c:Cart}(h:GoodC c){s:Name}{m:Mark}(k:In c.2 s m):okM m=true:=by
 obtain ⟨x,hx,_,hm⟩:=k;exact (h.ok x hx).2.2.2 m hm
theorem in_okName {c:Cart}(h:GoodC c){s:Name}{m:Mark}(k:In c.2 s m):okName s=true:=by
 obtain ⟨x,hx,e,_⟩:=k;exact e ▸ (h.ok x hx).1
theorem join_has {a b:Cart}(ha:GoodC a)(hb:GoodC b)(d:Dot):ctxHas (join a b).1 d=true↔ctxHas a.1 d=true∨ctxHas b.1 d=true:=(cunion_ok ha.cx.okx hb.cx.okx).2 d
theorem join_good {a b:Cart}(ha:GoodC a)(hb:GoodC b):GoodC (join a b) where
 cx:=(cunion_ok ha.cx.okx hb.cx.okx).1
 nm:=by
  unfold join jitems;dsimp only;refine List.Pairwise.filter _ ?_;rw[List.pairwise_map];exact nset_pw _
 ok:=by
  intro x hx;have hx0:=hx;unfold join jitems at hx;dsimp only at hx;obtain ⟨h1,h2⟩:=List.mem_filter.1 hx;obtain ⟨t,_,rfl⟩:=List.mem_map.1 h1;have hl:=of_decide_eq_true h2;have hne:(item a b t).2≠[]:=λq=>by rw[q] at hl;exact absurd hl (by decide)
  have all:∀m∈(item a b t).2,JIn a b t m:=λm hm=>(both_mem ha hb _ m).1 ((mset_mem (both_fn ha hb _) m).1 hm)
  refine ⟨?_,hne,List.pairwise_map.2 (mset_pw _),λm hm=>(jin_in (all m hm)).elim (in_okM ha) (in_okM hb)⟩;obtain ⟨m,hm⟩:=List.exists_mem_of_ne_nil _ hne;exact (jin_in (all m hm)).elim (in_okName ha) (in_okName hb)
 un:=λs s' m m' h k e=>jin_un ha hb ((join_in ha hb s m).1 h) ((join_in ha hb s' m').1 k) e
 mi:=λs m h=>(join_has ha hb m.1).2 ((jin_in ((join_in ha hb s m).1 h)).elim (λq=>.inl (ha.mi s m q)) (λq=>.inr (hb.mi s m q)))
theorem join_comm {a b:Cart}(ha:GoodC a)(hb:GoodC b):join a b=join b a:=by
 refine good_ext (join_good ha hb) (join_good hb ha) (λd=>?_) λs m=>?_
 ·rw [join_has ha hb,join_has hb ha]
  exact or_comm
 ·rw [join_in ha hb,join_in hb ha]
  unfold JIn;exact or_comm
theorem find_le {c:Cart}{n:Nat}(h:∀x∈c.2,x.2.length<=n)(s:Name):(marks c.2 s).length<=n:=by
 unfold marks;cases hf:c.2.find? (λx=>decide (x.1=s)) with
 |none=>exact Nat.zero_le _
 |some x=>exact h x (List.mem_of_find?_eq_some hf)
theorem both_len {a b:Cart}{n k:Nat}(ha:∀x∈a.2,x.2.length<=n)(hb:∀x∈b.2,x.2.length<=k)(s:Name):(both a b s).length<=n+k:=by
 unfold both stay;have h1:=find_le ha s;have h2:=find_le hb s;have h3:=List.length_filter_le (keeps (marks b.2 s) b.1) (marks a.2 s);have h4:=List.length_filter_le (keeps (marks a.2 s) a.1) (marks b.2 s);rw[List.length_append]
 omega
theorem jitems_len (a b:Cart):(jitems a b (allNames a b)).length<=a.2.length+b.2.length:=by
 unfold jitems;have h1:=List.length_filter_le (λx:Item=>decide (0<x.2.length)) ((allNames a b).map (item a b));have h2:=nset_len (namesOf a++namesOf b);unfold allNames at*;unfold namesOf at*;simp only[List.length_map,List.length_append] at*
 omega
theorem join_marks {a b:Cart}{n k:Nat}(ha:∀x∈a.2,x.2.length<=n)(hb:∀x∈b.2,x.2.length<=k):∀x∈(join a b).2,x.2.length<=n+k:=by
 intro x hx;unfold join jitems at hx;obtain ⟨t,_,rfl⟩:=List.mem_map.1 (List.mem_filter.1 hx).1;have h1:=mset_len (both a b t);have h2:=both_len ha hb t;unfold item;dsimp only
 omega
end Go.Pn.Jn
end
section
namespace Go.Pn.Bt
open Go Go.Pn Go.Pn.Jn
abbrev Cart:=Cn.Cart
abbrev Ent:=List UInt8×Cn.Cart
instance decEnt:DecidableEq Ent:=inferInstanceAs (DecidableEq (List UInt8×Cn.Cart))
def keyB (c:UInt8):Bool:=(decide (97<=c.toNat)&&decide (c.toNat<=122))||((decide (48<=c.toNat)&&decide (c.toNat<=57))||(decide (c.toNat=45)||(decide (c.toNat=95)||(decide (c.toNat=46)||decide (c.toNat=47)))))
def okKey (s:List UInt8):Bool:=s.all keyB&&decide (1<=s.length∧s.length<=64)
def okE (x:Ent):Bool:=okKey x.1&&Cn.valid x.2
def rises (l:List Ent):Bool:=Cn.adj (λa b=>Op.bytesLess a.1 b.1) l
def ordered (l:List Ent):Bool:=l.all okE&&rises l
def valid (l:List Ent):Bool:=decide (l.length<=1024)&&ordered l
structure Ord (l:List Ent):Prop where
 ok:∀x∈l,okKey x.1=true∧GoodC x.2
 up:l.Pairwise (λa b=>BL a.1 b.1)
theorem rises_iff {l:List Ent}:rises l=true↔l.Pairwise (λa b=>BL a.1 b.1):=by
 unfold rises
 constructor
 ·have:∀l:List Ent,Cn.adj (λa b=>Op.bytesLess a.1 b.1) l=true->l.Pairwise (λa b=>BL a.1 b.1):=by
   intro l
   induction l with
   |nil=>intro _;exact List.Pairwise.nil
   |cons a l ih=>
    intro h;cases l with
    |nil=>exact List.pairwise_singleton _ _
    |cons b l=>
     unfold Cn.adj at h;rw[Bool.and_eq_true] at h;have ih:=ih h.2;refine List.pairwise_cons.2 ⟨λz hz=>?_,ih⟩;rcases List.mem_cons.1 hz with e|hz
     ·rw [e];exact h.1
     ·exact bl_trans (a:=a.1) h.1 ((List.pairwise_cons.1 ih).1 z hz)
  exact this l
 ·intro h
  exact Cn.adj_yes λi hi=>List.pairwise_iff_getElem.1 h i (i+1) (by omega) hi (by omega)
theorem ord_iff {l:List Ent}:ordered l=true↔Ord l:=by
 unfold ordered;rw[Bool.and_eq_true,rises_iff,List.all_eq_true]
 constructor
 ·rintro ⟨h1,h2⟩
  refine ⟨λx hx=>?_,h2⟩;have:=h1 x hx;unfold okE at this;rw[Bool.and_eq_true] at this;exact ⟨this.1,good_iff.1 this.2⟩
 ·intro h
  refine ⟨λx hx=>?_,h.up⟩;unfold okE;rw[Bool.and_eq_true];exact ⟨(h.ok x hx).1,good_iff.2 (h.ok x hx).2⟩
theorem Ord.nil:Ord []:=⟨by simp,List.Pairwise.nil⟩
theorem Ord.tail {a:Ent}{l:List Ent}(h:Ord (a::l)):Ord l:=⟨λx hx=>h.ok x (.tail _ hx),(List.pairwise_cons.1 h.up).2⟩
theorem Ord.head {a:Ent}{l:List Ent}(h:Ord (a::l)):∀x∈l,BL a.1 x.1:=(List.pairwise_cons.1 h.up).1
def get (l:List Ent)(k:Name):Option Cart:=(l.find? λx=>decide (x.1=k)).map (·.2)
theorem get_nil (k:Name):get [] k=none:=rfl
theorem get_cons (a:Ent)(l:List Ent)(k:Name):get (a::l) k=if a.1=k then some a.2 else get l k:=by
 unfold get;rw[List.find?_cons]
 by_cases h:a.1=k
 ·rw [if_pos h,decide_eq_true h];rfl
 ·rw [if_neg h,decide_eq_false h]
theorem get_none {l:List Ent}{k:Name}(h:∀x∈l,x.1≠k):get l k=none:=by
 unfold get;rw[List.find?_eq_none.2 λx hx=>by simpa using h x hx]
 rfl
theorem get_mem {l:List Ent}(h:Ord l){x:Ent}(hx:x∈l):get l x.1=some x.2:=by
 induction l with
 |nil=>cases hx
 |cons a l ih=>
  rw[get_cons];rcases List.mem_cons.1 hx with e|hx
  ·rw [e,if_pos rfl]
  ·have:=h.head x hx
   rw[if_neg λq=>by rw[q] at this;exact bl_irrefl _ this];exact ih h.tail hx
theorem mem_get {l:List Ent}{k:Name}{c:Cart}(h:get l k=some c):(k,c)∈l:=by
 unfold get at h;cases hf:l.find? (λx=>decide (x.1=k)) with
 |none=>rw[hf] at h;cases h
 |some x=>
  rw[hf] at h;have h1:=List.mem_of_find?_eq_some hf;have h2:=List.find?_some hf;simp only[decide_eq_true_eq] at h2;have h3:x.2=c:=by simpa using h
  rw[<-h2,<-h3];exact h1
theorem ord_ext {a b:List Ent}(ha:Ord a)(hb:Ord b)(h:∀k,get a k=get b k):a=b:=by
 refine pw_ext (R:=λa b:Ent=>BL a.1 b.1) (λa=>bl_irrefl a.1) (λh k=>bl_trans h k) ha.up hb.up λx=>⟨λhx=>?_,λhx=>?_⟩
 ·have:=get_mem ha hx
  rw[h] at this;exact mem_get this
 ·have:=get_mem hb hx
  rw[<-h] at this;exact mem_get this
theorem get_less {l:List Ent}{k:Name}(h:∀x∈l,BL k x.1):get l k=none:=get_none λx hx q=>by have:=h x hx;rw[q] at this;exact bl_irrefl _ this
def mg:Nat->List Ent->List Ent->List Ent
 |0,_,_=>[]
 |_+1,[],[]=>[]
 |n+1,a::x,[]=>a::mg n x []
 |n+1,[],b::y=>b::mg n [] y
 |n+1,a::x,b::y=>
  if BL a.1 b.1 then a::mg n x (b::y)
  else if BL b.1 a.1 then b::mg n (a::x) y
  else (a.1,join a.2 b.2)::mg n x y
def merge (x y:List Ent):List Ent:=mg (x.length+y.length) x y
theorem mg_fuel:∀(n m:Nat) (x y:List Ent),x.length+y.length<=n->x.length+y.length<=m->mg n x y=mg m x y:=by
 intro n
 induction n with
 |zero=>
  intro m x y h _;have hx:x=[]:=List.eq_nil_of_length_eq_zero (by omega);have hy:y=[]:=List.eq_nil_of_length_eq_zero (by omega);subst hx hy;cases m<;>simp[mg]
 |succ n ih=>
  intro m x y h k;cases m with
  |zero=>
   have hx:x=[]:=List.eq_nil_of_length_eq_zero (by omega);have hy:y=[]:=List.eq_nil_of_length_eq_zero (by omega);subst hx hy
   simp[mg]
  |succ m=>
   cases x with
   |nil=>
    cases y with
    |nil=>simp[mg]
    |cons b y=>rw[mg,mg,ih m [] y (by simp at h ⊢;omega) (by simp at k ⊢;omega)]
   |cons a x=>
    cases y with
    |nil=>rw[mg,mg,ih m x [] (by simp at h ⊢;omega) (by simp at k ⊢;omega)]
    |cons b y=>
     simp only[List.length_cons] at h k;rw[mg,mg,ih m x (b::y) (by simp;omega) (by simp;omega),ih m (a::x) y (by simp;omega) (by simp;omega),ih m x y (by omega) (by omega)]
theorem merge_nil:merge [] []=[]:=by simp[merge,mg]
theorem merge_first {a:Ent}{x y:List Ent}(h:y=[]∨∃b y',y=b::y'∧BL a.1 b.1):merge (a::x) y=a::merge x y:=by
 unfold merge;rcases h with rfl|⟨b,y',rfl,h⟩
 ·simp [mg]
 ·have e:(a::x).length+(b::y').length=(x.length+(b::y').length)+1:=by simp;omega
  rw[e,mg,if_pos h]
theorem merge_second {b:Ent}{x y:List Ent}(h:x=[]∨∃a x',x=a::x'∧BL b.1 a.1):merge x (b::y)=b::merge x y:=by
 unfold merge;rcases h with rfl|⟨a,x',rfl,h⟩
 ·simp [mg]
 ·have e:(a::x').length+(b::y).length=((a::x').length+y.length)+1:=by simp;omega
  rw[e,mg,if_neg λq=>bl_irrefl _ (bl_trans h q),if_pos h]
theorem merge_both {a b:Ent}{x y:List Ent}(h1:¬BL a.1 b.1)(h2:¬BL b.1 a.1):merge (a::x) (b::y)=(a.1,join a.2 b.2)::merge x y:=by
 unfold merge;have e:(a::x).length+(b::y).length=(x.length+y.length+1)+1:=by simp;omega
 rw[e,mg,if_neg h1,if_neg h2,mg_fuel (x.length+y.length+1) (x.length+y.length) x y (by omega) (by omega)]
theorem get_good {l:List Ent}(h:Ord l){k:Name}{c:Cart}(hc:get l k=some c):GoodC c:=(h.ok _ (mem_get hc)).2
end Go.Pn.Bt
end
section
namespace Go.Pn.Cn
open Go Go.Pn
def badN (x:List UInt8)(e:Int):Prop:=e<0∨(0<e∧(x.getD e.toNat 0).toNat=0)∨(e=9∧1<(x.getD e.toNat 0).toNat)
instance (x:List UInt8) (e:Int):Decidable (badN x e):=by unfold badN;infer_instance
def dotQ (d:Dot):Prop:=(0<=d.1∧d.1<=65535)∧(0<=d.2∧d.2<=4294967295)
def markQ (m:Mark):Prop:=dotQ m.1∧(0<=m.2.1∧m.2.1<=2147483647)
def itemQ (x:Item):Prop:=x.1.length<=64∧∀m∈x.2,markQ m
end Go.Pn.Cn
end
section
namespace Go.Pn.Cn
open Go Go.Pn
section
variable {l:List UInt8}{k k1 k2 k3 k4:Nat}{n m q t:BitVec 64}{d:Dot}
section
variable {α:Type}{Q:α->Prop}{f:α->List UInt8}
def manyQ (Q:α->Prop)(xs:List α):Prop:=∀x∈xs,Q x
end
abbrev nameQ:List UInt8->Prop:=λs=>(s.length:Int)<=64
theorem okQ {d:Dot}(h:badD d=false):dotQ d:=by have:=okD_of h;unfold Dt.Valid at this;unfold dotQ;omega
abbrev comp:Ctx->Prop:=λx=>isCompact x=true
abbrev cartQ:Cart->Prop:=λc=>comp c.1∧manyQ itemQ c.2
theorem okNameLen {s:List UInt8}(h:okName s=true):s.length<=64:=by
 unfold okName at h;simp only[Bool.and_eq_true,decide_eq_true_eq] at h;exact h.2.1.2
theorem okMQ {m:Mark}(h:badM m=false):markQ m:=by
 have h:okM m=true:=by unfold badM at h;simpa using h
 unfold okM at h;simp only[Bool.and_eq_true,decide_eq_true_eq] at h;obtain ⟨h1,h2,_⟩:=h;refine ⟨okQ (by unfold badD;rw[h1];rfl),by omega⟩
theorem okIQ {x:Item}(h:badI x=false):itemQ x:=by
 unfold badI at h;simp only[Bool.or_eq_false_iff,Bool.not_eq_false'] at h;obtain ⟨h1,_,_,h2⟩:=h;exact ⟨okNameLen h1,λm hm=>okMQ (any_false (by rw[h2];rfl) m hm)⟩
theorem validQ {c:Cart}(h:valid c=true):cartQ c:=by
 unfold valid itemsValid at h;simp only[Bool.and_eq_true] at h;obtain ⟨h1,⟨h2,_⟩,_⟩:=h;exact ⟨h1,λx hx=>okIQ (any_false h2 x hx)⟩
def big (c:Cart):Prop:=c.1.1.length<=1000000∧c.1.2.length<=1000000∧c.2.length<=1000000∧∀x∈c.2,x.1.length<=1000000∧x.2.length<=1000000
abbrev val:Cart->Prop:=λc=>valid c=true
end
end Go.Pn.Cn
end
section
namespace Go.Pn.Crc
def bit (n:BitVec 32):BitVec 32:=if n%2#32=1#32 then n/2#32^^^3988292384#32 else n/2#32
def bits:Nat->BitVec 32->BitVec 32
 |0,n=>n
 |k+1,n=>bit (bits k n)
def step (n:BitVec 32)(x:BitVec 8):BitVec 32:=bits 8 (n^^^x.setWidth 32)
def steps (n:BitVec 32)(l:List UInt8):BitVec 32:=l.foldl (λn x=>step n x.toBitVec) n
def update (s:BitVec 32)(l:List UInt8):BitVec 32:= ~~~ (steps (~~~ s) l)
def tab (i:Nat):BitVec 32:=bits 8 (BitVec.ofInt 32 (i:Int))
def part (k:Nat):List Value:=(List.range 256).map λ(i:Nat)=>if i<k then Value.int .u32 ((tab i).toNat:Int) else .int .u32 0
end Go.Pn.Crc
end
section
namespace Go.Pn.Bt
open Go Go.Pn Go.Pn.Jn
def entB (x:Ent):List UInt8:=Cn.strB x.1++Cn.bytes x.2
def body (l:List Ent):List UInt8:=Cn.num l.length++l.flatMap entB
def sum4 (n:BitVec 32):List UInt8:=[UInt8.ofBitVec ((n>>>24).setWidth 8),UInt8.ofBitVec ((n>>>16).setWidth 8),UInt8.ofBitVec ((n>>>8).setWidth 8),UInt8.ofBitVec (n.setWidth 8)]
def sumOf (l:List UInt8):BitVec 32:=Crc.update 0#32 l
def end4 (b:List UInt8):List UInt8:=b++sum4 (sumOf b)
def enc (l:List Ent):List UInt8:=end4 (body l)
end Go.Pn.Bt
end
section
namespace Go.Pn.Bt
open Go Go.Pn Go.Pn.Jn
def fits (g:List Ent):Prop:=g.length<=1024∧(body g).length+4<=65536
instance decFits (g:List Ent):Decidable (fits g):=inferInstanceAs (Decidable (_∧_))
def splitO:List Ent->List Ent->List (List Ent)
 |[],[]=>[]
 |c::cur,[]=>[c::cur]
 |[],x::l=>splitO [x] l
 |c::cur,x::l=>if fits (c::cur++[x]) then splitO (c::cur++[x]) l else (c::cur)::splitO [x] l
def split (l:List Ent):List (List Ent):=splitO [] l
section
variable {cur l:List Ent}{x:Ent}
end
end Go.Pn.Bt
end
section
namespace Go.Pn.Bt
open Go Go.Pn Go.Pn.Jn Go.Pn.Cn
abbrev okQ:Ent->Prop:=λx=>nameQ x.1∧val x.2
end Go.Pn.Bt
end
section
namespace Go.Pn.Bt
open Go Go.Pn Go.Pn.Jn
def sepB (c:UInt8):Bool:=decide (c.toNat=45)||(decide (c.toNat=95)||(decide (c.toNat=46)||decide (c.toNat=47)))
abbrev oddB (y:UInt8):Prop:=(y.toBitVec<97#8∨122#8<y.toBitVec)∧(y.toBitVec<48#8∨57#8<y.toBitVec)
theorem odd_iff (y:UInt8):oddB y↔(y.toNat<97∨122<y.toNat)∧(y.toNat<48∨57<y.toNat):=Iff.rfl
theorem keyB_of {y:UInt8}(h:¬oddB y):keyB y=true:=by
 rw[odd_iff] at h;unfold keyB
 by_cases h1:97<=y.toNat∧y.toNat<=122
 ·simp [h1.1,h1.2]
 ·have h2:48<=y.toNat∧y.toNat<=57:=by omega
  simp[h2.1,h2.2]
theorem keyB_sep {y:UInt8}(h:sepB y=true):keyB y=true:=by
 unfold keyB;unfold sepB at h;rw[h]
 simp
theorem keyB_no {y:UInt8}(h:oddB y)(h2:sepB y=false):keyB y=false:=by
 rw[odd_iff] at h;unfold keyB;unfold sepB at h2;rw[h2];have h3:¬(97<=y.toNat∧y.toNat<=122):=by omega
 have h4:¬(48<=y.toNat∧y.toNat<=57):=by omega
 simp only[Bool.or_false,Bool.or_eq_false_iff,Bool.and_eq_false_iff,decide_eq_false_iff_not]
 omega
theorem u8_lit {c:UInt8}{n:Nat}(hn:n<256):(UInt8.ofNat n=c)↔c.toNat=n:=by
 constructor
 ·rintro rfl;simp;omega
 ·intro h;exact UInt8.toNat_inj.1 (by simp;omega)
theorem index_sep (c:UInt8):decide (0<=Lib.indexByte [45,95,46,47] c)=sepB c:=by
 have e:∀n:Nat,n<256->((UInt8.ofNat n==c)=decide (c.toNat=n)):=λn hn=>by
  by_cases h:UInt8.ofNat n=c
  ·rw [dT ((u8_lit hn).1 h)];simpa using h
  ·rw [dF (mt (u8_lit hn).2 h)];simpa using h
 have e1:=e 45 (by decide);have e2:=e 95 (by decide);have e3:=e 46 (by decide);have e4:=e 47 (by decide);unfold Lib.indexByte Lib.indexByte Lib.indexByte Lib.indexByte Lib.indexByte sepB;have f1:((45:UInt8)==c)=decide (c.toNat=45):=e1;have f2:((95:UInt8)==c)=decide (c.toNat=95):=e2;have f3:((46:UInt8)==c)=decide (c.toNat=46):=e3;have f4:((47:UInt8)==c)=decide (c.toNat=47):=e4;rw[f1,f2,f3,f4]
 by_cases h1:c.toNat=45
 ·simp [h1]
 by_cases h2:c.toNat=95
 ·simp [h2]
 by_cases h3:c.toNat=46
 ·simp [h3]
 by_cases h4:c.toNat=47
 ·simp [h4]
 simp[h1,h2,h3,h4]
theorem okKey_no {s:List UInt8}{k:Nat}(hk:k<s.length)(h:keyB s[k]=false):okKey s=false:=by
 unfold okKey;rw[Cn.all_no hk h]
 rfl
theorem sep_hi {c:UInt8}(h:128<=c.toNat):sepB c=false:=by
 unfold sepB;simp only[Bool.or_eq_false_iff,decide_eq_false_iff_not]
 omega
def Big (l:List Ent):Prop:=∀x∈l,x.1.length<=1000000∧Cn.big x.2
theorem ordered_yes {l:List Ent}(h1:∀i,∀h:i<l.length,okE l[i]=true)(h2:∀i,∀h:i+1<l.length,Op.bytesLess l[i].1 l[i+1].1=true):ordered l=true:=by
 unfold ordered rises;rw[Cn.all_yes h1,Cn.adj_yes h2]
 rfl
theorem ordered_no1 {l:List Ent}{i:Nat}(hi:i<l.length)(h:okE l[i]=false):ordered l=false:=by
 unfold ordered;rw[Cn.all_no hi h]
 rfl
theorem ordered_no2 {l:List Ent}{i j:Nat}(hi:i<l.length)(hj:j<l.length)(hij:i=j+1)(h:Op.bytesLess l[j].1 l[i].1=false):ordered l=false:=by
 unfold ordered rises;rw[Cn.adj_no hi hj hij h,Bool.and_false]
theorem okE_of {x:Ent}(h1:okKey x.1=true)(h2:Cn.valid x.2=true):okE x=true:=by unfold okE;rw[h1,h2];rfl
theorem okE_no1 {x:Ent}(h1:okKey x.1=false):okE x=false:=by unfold okE;rw[h1];rfl
theorem okE_no2 {x:Ent}(h1:Cn.valid x.2=false):okE x=false:=by unfold okE;rw[h1,Bool.and_false]
def smallE (x:Ent):Bool:=decide (x.1.length<=100)&&Cn.small x.2
def small (l:List Ent)(most:Int):Bool:=decide ((l.length:Int)<=most)&&l.all smallE
end Go.Pn.Bt
end
section
namespace Go.Pn.Bt
open Go Go.Pn Go.Pn.Jn
theorem small_no {l:List Ent}{most:Int}{i:Nat}(hi:i<l.length)(h:smallE l[i]=false):small l most=false:=by unfold small;rw[Cn.all_no hi h,Bool.and_false]
theorem small_end {l:List Ent}{most:Int}{n:Nat}(hn:n=l.length)(h:(n:Int)<=most->∀i,∀hi:i<l.length,smallE l[i]=true)(_:True):decide ((n:Int)<=most)=small l most:=by
 subst hn;unfold small
 by_cases hm:(l.length:Int)<=most
 ·rw [Cn.all_yes (h hm),Bool.and_true]
 ·rw [decide_eq_false hm,Bool.false_and]
end Go.Pn.Bt
end
section
namespace Go.Pn.Dg
open Go Go.Pn
abbrev Str:=List UInt8
def off:BitVec 64:=14695981039346656037#64
def prime:BitVec 64:=1099511628211#64
def step (n:BitVec 64)(x:UInt8):BitVec 64:=(n^^^x.toBitVec.setWidth 64)*prime
def hash (l:Str):BitVec 64:=l.foldl step off
theorem hash_take (l:Str){k:Nat}(h:k<l.length):(l.take (k+1)).foldl step off=step ((l.take k).foldl step off) l[k]:=by
 rw[List.take_succ_eq_append_getElem h,List.foldl_append]
 rfl
def bucket (l:Str):Nat:=(hash l).toNat%16
theorem bucket_lt (l:Str):bucket l<16:=Nat.mod_lt _ (by decide)
theorem bucket_int (l:Str):(hash l%16#64).toInt=(bucket l:Int):=by
 have h:(hash l%16#64).toNat=bucket l:=by rw[BitVec.toNat_umod];rfl
 rw[BitVec.toInt_eq_toNat_of_lt (by rw[h];have:=bucket_lt l;omega),h]
def be8 (n:BitVec 64):Str:=[56,48,40,32,24,16,8,0].map λk=>(⟨(n>>>k).setWidth 8⟩:UInt8)
theorem be8_len (n:BitVec 64):(be8 n).length=8:=rfl
theorem be8_at (n:BitVec 64){k:Nat}(h:k<8):(be8 n)[k]'h=⟨(n>>>(56-8*k)).setWidth 8⟩:=by
 rcases (show k=0∨k=1∨k=2∨k=3∨k=4∨k=5∨k=6∨k=7 by omega) with rfl|rfl|rfl|rfl|rfl|rfl|rfl|rfl<;>rfl
theorem be8_take (n:BitVec 64){k:Nat}(h:k<8):(be8 n).take (k+1)=(be8 n).take k++[⟨(n>>>(56-8*k)).setWidth 8⟩]:=by
 rw[List.take_succ_eq_append_getElem h,be8_at n h]
theorem be8_flat_len (l:List (BitVec 64)):(l.flatMap be8).length=8*l.length:=by
 induction l with
 |nil=>rfl
 |cons x l ih=>rw[List.flatMap_cons,List.length_append,be8_len,ih,List.length_cons];omega
theorem be8_flat_take (l:List (BitVec 64)){k:Nat}(h:k<l.length):(l.take (k+1)).flatMap be8=(l.take k).flatMap be8++be8 l[k]:=by
 rw[List.take_succ_eq_append_getElem h,List.flatMap_append]
 simp
def sum (l:List (BitVec 64)):BitVec 64:=hash (l.flatMap be8)
abbrev Leaf:=Str×BitVec 64
structure Dig where
 ls:List Leaf
 bs:List (BitVec 64)
 rt:BitVec 64
deriving DecidableEq
def zero:Dig:=⟨[],List.replicate 16 0#64,0#64⟩
def part (l:List Leaf)(k:Nat):List (BitVec 64):=(l.filter λx=>bucket x.1=k).map (·.2)
def bks (l:List Leaf):List (BitVec 64):=(List.range 16).map λk=>sum (part l k)
theorem bks_len (l:List Leaf):(bks l).length=16:=by simp[bks]
def grown (l:List Leaf):Dig:=⟨l,bks l,sum (bks l)⟩
theorem part_snoc (l:List Leaf)(x:Leaf)(k:Nat):part (l++[x]) k=part l k++if bucket x.1=k then [x.2] else []:=by
 unfold part;rw[List.filter_append,List.map_append]
 congr 1
 by_cases h:bucket x.1=k<;>simp[h]
theorem bks_at (l:List Leaf){k:Nat}(h:k<(bks l).length):(bks l)[k]=sum (part l k):=by simp[bks]
def bksP (l:List Leaf)(k:Nat):List (BitVec 64):=(bks l).take k++List.replicate (16-k) 0#64
theorem bksP_len (l:List Leaf){k:Nat}(h:k<=16):(bksP l k).length=16:=by
 unfold bksP;rw[List.length_append,List.length_take,bks_len,List.length_replicate]
 omega
theorem bksP_all (l:List Leaf):bksP l 16=bks l:=by
 unfold bksP;rw[List.take_of_length_le (by rw[bks_len];exact Nat.le_refl _)]
 simp
theorem bksP_set (l:List Leaf){k:Nat}(h:k<16):(bksP l k).set k (sum (part l k))=bksP l (k+1):=by
 have hb:=bks_len l;unfold bksP;have e1:((bks l).take k).length=k:=by rw[List.length_take,hb];omega
 rw[List.set_append_right _ _ (by omega),e1,Nat.sub_self,show 16-k=(16-(k+1))+1 by omega,List.replicate_succ,List.set_cons_zero,List.take_succ_eq_append_getElem (by omega),bks_at l (by omega),List.append_assoc]
 rfl
theorem part_len (l:List Leaf)(k:Nat):(part l k).length<=l.length:=by
 unfold part;rw[List.length_map];exact List.length_filter_le _ _
theorem leq_yes {a b:Str}(h:Op.bytesLess a b=true∨a=b):Op.bytesLess b a=false:=by
 rw[Bool.eq_false_iff];intro q;rcases h with h|h
 ·exact Jn.bl_irrefl a (Jn.bl_trans (b:=b) h q)
 ·subst h
  exact Jn.bl_irrefl a q
theorem leq_no {a b:Str}(h:Op.bytesLess a b=false∧¬a=b):Op.bytesLess b a=true:=by
 rcases Jn.bl_total a b with q|q|q
 ·rw [show Op.bytesLess a b=true from q] at h
  cases h.1
 ·exact absurd q h.2
 ·exact q
def okLs (l:List Leaf):Bool:=l.all (λx=>Bt.okKey x.1)&&Cn.adj (λa b=>Op.bytesLess a.1 b.1) l
theorem okLs_yes {l:List Leaf}(h1:∀i,∀h:i<l.length,Bt.okKey l[i].1=true)(h2:∀i,∀h:i+1<l.length,Op.bytesLess l[i].1 l[i+1].1=true):okLs l=true:=by
 unfold okLs;rw[Cn.all_yes h1,Cn.adj_yes h2]
 rfl
theorem okLs_no1 {l:List Leaf}{i:Nat}(hi:i<l.length)(h:Bt.okKey l[i].1=false):okLs l=false:=by
 unfold okLs;rw[Cn.all_no hi h]
 rfl
theorem okLs_no2 {l:List Leaf}{i j:Nat}(hi:i<l.length)(hj:j<l.length)(hij:i=j+1)(h:Op.bytesLess l[j].1 l[i].1=false):okLs l=false:=by
 unfold okLs;rw[Cn.adj_no hi hj hij h,Bool.and_false]
def valid (d:Dig):Bool:=decide (d.ls.length<=1024)&&okLs d.ls&&decide (bks d.ls=d.bs∧sum (bks d.ls)=d.rt)
theorem valid_long {d:Dig}(h:¬d.ls.length<=1024):valid d=false:=by unfold valid;rw[decide_eq_false h];rfl
theorem valid_bad {d:Dig}(h:okLs d.ls=false):valid d=false:=by unfold valid;rw[h,Bool.and_false];rfl
theorem valid_no {d:Dig}(h:¬bks d.ls=d.bs):valid d=false:=by
 unfold valid;rw[dF (p:=bks d.ls=d.bs∧sum (bks d.ls)=d.rt) (λq=>h q.1),Bool.and_false]
theorem valid_end {d:Dig}(h1:d.ls.length<=1024)(h2:okLs d.ls=true)(h3:bks d.ls=d.bs):decide (sum (bks d.ls)=d.rt)=valid d:=by
 unfold valid;rw[decide_eq_true h1,h2]
 simp[h3]
theorem valid_eq {d:Dig}(h1:d.ls.length<=1024)(h2:okLs d.ls=true):decide (d=grown d.ls)=valid d:=by
 unfold valid;rw[decide_eq_true h1,h2,Bool.true_and,Bool.true_and];refine decide_eq_decide.2 ⟨λh=>?_,λh=>?_⟩
 ·have e1:=congrArg Dig.bs h
  have e2:=congrArg Dig.rt h;exact ⟨e1.symm,e2.symm⟩
 ·obtain ⟨l,b,r⟩:=d
  simp only[grown] at*;rw[h.2,h.1]
def parts (l:List Leaf):List (List (BitVec 64)):=(List.range 16).map (part l)
theorem parts_len (l:List Leaf):(parts l).length=16:=by simp[parts]
theorem parts_at (l:List Leaf){k:Nat}(h:k<(parts l).length):(parts l)[k]=part l k:=by simp[parts]
theorem parts_nil:parts []=List.replicate 16 []:=rfl
theorem parts_snoc (l:List Leaf)(x:Leaf){k:Nat}(hk:k=bucket x.1)(h:k<(parts l).length):(parts l).set k ((parts l)[k]++[x.2])=parts (l++[x]):=by
 apply List.ext_getElem (by rw[List.length_set,parts_len,parts_len])
 intro i h1 h2;rw[List.getElem_set,parts_at _ h2,part_snoc];rw[List.length_set] at h1
 split
 ·rename_i q
  subst q;rw[parts_at l h,if_pos hk.symm]
 ·rename_i q
  rw[parts_at l h1,if_neg (λq2=>q (hk.trans q2)),List.append_nil]
theorem parts_take (l:List Leaf){i k:Nat}(hi:i<l.length)(hk:k=bucket l[i].1)(h:k<(parts (l.take i)).length):(parts (l.take i)).set k ((parts (l.take i))[k]++[l[i].2])=parts (l.take (i+1)):=by
 rw[List.take_succ_eq_append_getElem hi];exact parts_snoc _ _ hk h
end Go.Pn.Dg
end
section
namespace Go.Pn
section
variable {α β:Type}{E:Enc α}{G:Flat β}{w:World}{F:Nat->Prop}{v:Value}{xs:List α}
theorem Sl.raws {R:β->α->Prop}(hs:E.sz=G.sz)(hr:∀cs x,E.rep w F cs x->∃r,cs=G.e r∧R r x)(h:Sl E w F v xs):∃rs:List β,Sl G.enc w F v rs∧rs.length=xs.length∧∀i,∀h:i<rs.length,∀h':i<xs.length,R rs[i] xs[i]:=by
 obtain ⟨hm,h⟩:=h;rcases h with ⟨a,rfl,rfl⟩|⟨b,off,cap,cur,ty,fr,rfl,hF,hb,h1,h2,h3,hx⟩
 ·exact ⟨[],⟨hm,.inl ⟨a,rfl,rfl⟩⟩,rfl,λi h=>absurd h (by simp)⟩
 ·have hc:∀i:Fin xs.length,∃r,(cur.toList.drop (off+i.val*E.sz)).take E.sz=G.e r∧R r xs[i.val]:=λi=>hr _ _ (hx i.val i.isLt)
  obtain ⟨f,hf⟩:=Classical.axiomOfChoice hc;have hl:(List.ofFn f).length=xs.length:=List.length_ofFn;refine ⟨List.ofFn f,⟨by rw[hl];exact hm,.inr ⟨b,off,cap,cur,ty,fr,by rw[hl],hF,hb,by rw[hl];exact h1,h2,λhp=>?_,λi hi=>?_⟩⟩,hl,λi hi hi'=>?_⟩
  ·have:=h3 (by rw[hl] at hp;exact hp)
   rw[hs] at this;exact this
  ·rw [List.getElem_ofFn]
   have:=(hf ⟨i,by rw[hl] at hi;exact hi⟩).1;rw[hs] at this;exact this
  ·rw [List.getElem_ofFn]
   exact (hf ⟨i,hi'⟩).2
end
section
variable {w:World}{F:Nat->Prop}{v:Value}{l:List ItemT}{tm ti:TypeId}
theorem Sl.items (h:Sl itemE w F v l):∃raw,Sl itemF.enc w F v raw∧Items w F raw l:=by
 obtain ⟨rs,h1,h2,h3⟩:=Sl.raws (G:=itemF) (R:=λr x=>r.1=x.1∧Sl markF.enc w F (Go.Pn.slv r.2) x.2) rfl (λcs x hr=>by
  obtain ⟨vm,rfl,hm⟩:=hr;obtain ⟨a,rfl⟩:=hm.slv;exact ⟨(x.1,a),rfl,rfl,hm⟩) h
 exact ⟨rs,h1,h2,h3⟩
def ItemsK (tm:TypeId)(w:World)(F:Nat->Prop)(k:Nat)(raw:List (List UInt8×Raw))(l:List ItemT):Prop:=
 raw.length=l.length∧∀i,∀h:i<raw.length,∀h':i<l.length,raw[i].1=l[i].1∧(i<k->Fre markF tm w F (slv raw[i].2) l[i].2)
theorem ItemsK.kM {M:Nat->Prop}{w':World}{k:Nat}{raw:List (List UInt8×Raw)}(h:ItemsK tm w F k raw l)(e:Ext M w w')(hM:∀k,F k->¬M k):ItemsK tm w' F k raw l:=
 ⟨h.1,λi h1 h2=>⟨(h.2 i h1 h2).1,λhk=>((h.2 i h1 h2).2 hk).kM e hM⟩⟩
theorem ItemsK.keepA {M:Nat->Prop}{w':World}{k:Nat}{raw:List (List UInt8×Raw)}(h:ItemsK tm w F k raw l)(e:Ext M w w')(hM:∀k,F k->¬M k:=by intro k hk h;first|(have q:=hF k hk;(try dsimp only at h);omega)|(have q:=hF2 k hk;(try dsimp only at h);omega)|(have q:=hFb k hk;(try dsimp only at h);omega)|((try dsimp only at hk);(try dsimp only at h);omega)):ItemsK tm w' F k raw l:=ItemsK.kM h e hM
theorem ItemsK.L {w':World}{k:Nat}{raw:List (List UInt8×Raw)}(h:ItemsK tm w F k raw l)(e:Le w w'):ItemsK tm w' F k raw l:=h.kM e λ_ _=>not_false
theorem ItemsK.weak {F':Nat->Prop}{k:Nat}{raw:List (List UInt8×Raw)}(h:ItemsK tm w F k raw l)(hF:∀k,F k->F' k):ItemsK tm w F' k raw l:=
 ⟨h.1,λi h1 h2=>⟨(h.2 i h1 h2).1,λhk=>((h.2 i h1 h2).2 hk).weak hF⟩⟩
theorem ItemsK.weakA {F':Nat->Prop}{k:Nat}{raw:List (List UInt8×Raw)}(h:ItemsK tm w F k raw l)(hF:∀k,F k->F' k:=by intro q hq;(try dsimp only at hq);(try dsimp only);omega):ItemsK tm w F' k raw l:=ItemsK.weak h hF
theorem Items.k0 {raw:List (List UInt8×Raw)}{F':Nat->Prop}(h:Items w F raw l):ItemsK tm w F' 0 raw l:=⟨h.1,λi h1 h2=>⟨(h.2 i h1 h2).1,λhk=>absurd hk (Nat.not_lt_zero _)⟩⟩
theorem ItemsK.set {k:Nat}{raw:List (List UInt8×Raw)}(h:ItemsK tm w F k raw l)(hk:k<raw.length)(hk':k<l.length){p:Raw}(hm:Fre markF tm w F (slv p) l[k].2):ItemsK tm w F (k+1) (raw.set k (raw[k].1,p)) l:=by
 refine ⟨by rw[List.length_set];exact h.1,λi h1 h2=>?_⟩;rw[List.length_set] at h1;rw[List.getElem_set]
 split
 ·rename_i e
  subst e;exact ⟨(h.2 k hk hk').1,λ_=>hm⟩
 ·rename_i e
  exact ⟨(h.2 i h1 h2).1,λq=>(h.2 i h1 h2).2 (by omega)⟩
theorem ItemsK.all {raw:List (List UInt8×Raw)}{k:Nat}(h:ItemsK tm w F k raw l)(hk:l.length<=k):ItemsF tm w F raw l:=⟨h.1,λi h1 h2=>⟨(h.2 i h1 h2).1,(h.2 i h1 h2).2 (by omega)⟩⟩
end
end Go.Pn
end
section
namespace Go.Pn
open Go.ChangeShapes Go.WideShapes Go.ChangeAt Go.RowKit
section
variable {H:Type}{enc:TypeId×Value->H}{P:Program}{W W':World}
theorem laid_mem {l:List (String×DataW Unit)}(h:laidMet P l W){n:String}{d:DataW Unit}(hm:(n,d)∈l):
 ∃g t cs fuel p,P.globalNamed n=some g∧(P.globals[g]?).map (·.type)=some t∧W.var? P n=some cs∧DataW.trod (λ_=>()) P W 0 (λ_=>true) false fuel t cs.toList=some (d,p):=by
 obtain ⟨ps,hv,h0⟩:=h
 clear h0
 induction l generalizing ps with
 |nil=>cases hm
 |cons x l ih=>
  obtain ⟨n',d'⟩:=x;obtain ⟨g,t,cs,fuel,p,q,h1,h2,h3,h4,h5,_⟩:=hv;rcases List.mem_cons.1 hm with e|hm
  ·cases e;exact ⟨g,t,cs,fuel,p,h1,h2,h3,h4⟩
  ·exact ih hm _ h5
theorem laidH {l:List (String×DataW Unit)}(h:laidMetH P l W)(hn:(l.filter λx=>x.2.handleName?.isSome)=[]):laidMet P l W:=by
 unfold laidMetH at h;rw[hn] at h;exact h
end
end Go.Pn
end
section
namespace Go.Pn
open Go.ChangeShapes Go.WideShapes Go.ChangeAt Go.RowKit
def slE {α:Type}(E:Enc α):Enc (List α) where
 sz:=1
 rep:=λw F cs xs=>∃v,cs=[v]∧Sl E w F v xs
 len:=by rintro w F cs x ⟨v,rfl,_⟩;rfl
 one:=by
  rintro w F cs x ⟨v,rfl,h⟩ c hc;obtain rfl:c=v:=by simpa using hc
  obtain ⟨l,cap,rfl,_⟩:=h.val
  rfl
 ext:=by rintro w w' F cs x ⟨v,rfl,h⟩ hw;exact ⟨v,rfl,h.ext hw⟩
 weak:=by rintro w F F' cs x ⟨v,rfl,h⟩ hF;exact ⟨v,rfl,h.weak hF⟩
def prE {α β:Type}(E:Enc α)(E':Enc β):Enc (α×β) where
 sz:=E.sz+E'.sz
 rep:=λw F cs x=>∃a b,cs=a++b∧E.rep w F a x.1∧E'.rep w F b x.2
 len:=by rintro w F cs x ⟨a,b,rfl,h1,h2⟩;rw[List.length_append,E.len h1,E'.len h2]
 one:=by
  rintro w F cs x ⟨a,b,rfl,h1,h2⟩ c hc;rcases List.mem_append.1 hc with h|h
  ·exact E.one h1 c h
  ·exact E'.one h2 c h
 ext:=by rintro w w' F cs x ⟨a,b,rfl,h1,h2⟩ hw;exact ⟨a,b,rfl,E.ext h1 hw,E'.ext h2 hw⟩
 weak:=by rintro w F F' cs x ⟨a,b,rfl,h1,h2⟩ hF;exact ⟨a,b,rfl,E.weak h1 hF,E'.weak h2 hF⟩
def intK (k:IntKind):Flat Int:=⟨1,λx=>[.int k x],λ_=>rfl,by simp[Value.oneCell'],by decide⟩
def strF:Flat (List UInt8):=⟨1,λx=>[str x],λ_=>rfl,by simp[Value.oneCell',str],by decide⟩
theorem cell_at {W:World}{a:Addr}{v:Value}(h:W.cell? a=some v):∃cur ty fr,a.spot=none∧W.heap[a.block]? =some (.cells cur ty fr):=by
 unfold World.cell? at h
 split at h
 ·rename_i c ty fr hh
  split at h
  ·cases h
  ·rename_i hs
   exact ⟨c,ty,fr,by simpa using hs,hh⟩
 ·cases h
structure Opens (P:Program) (W:World) {α:Type} (E:Enc α) (Q:α->Prop) (t:TypeId):Prop where
 sz:P.cellsOf t=E.sz
 op:∀{H:Type} {enc:TypeId×Value->H} {fuel:Nat} {cs:List Value} {x:DataW H×List MemPlace},DataW.trod enc P W 0 (λ_=>true) true fuel t cs=some x->∃d,E.rep W (λk=>k<W.heap.size) cs d∧Q d
section
variable {P:Program}{W:World}{α β:Type}{E:Enc α}{E':Enc β}{Q:α->Prop}{Q':β->Prop}{t e:TypeId}
theorem Opens.int {k:IntKind}(ht:P.underlying t=some (.int k))(hc:P.cellsOf t=1):Opens P W (intK k).enc (λz=>(Lit.int k z).wf=true) t:=
 ⟨hc,λh=>by obtain ⟨z,rfl,_,hw⟩:=DataW.trod_int ht h;exact ⟨z,rfl,hw⟩⟩
theorem Opens.str (ht:P.underlying t=some .string)(hc:P.cellsOf t=1):Opens P W strF.enc (λl=>l.length<=maxLen) t:=
 ⟨hc,λh=>by
  obtain ⟨s,rfl,_,hw⟩:=DataW.trod_string ht h;refine ⟨s.data.toList,?_,by rw[Array.length_toList];exact hw⟩;show [Value.string s]=[Go.Pn.str s.data.toList];unfold Go.Pn.str
  simp⟩
theorem Opens.imp (h:Opens P W E Q t)(hs:E'.sz=E.sz)(hi:∀cs d,E.rep W (λk=>k<W.heap.size) cs d->Q d->∃d',E'.rep W (λk=>k<W.heap.size) cs d'∧Q' d'):Opens P W E' Q' t:=
 ⟨h.sz.trans hs.symm,λhx=>by obtain ⟨d,h1,h2⟩:=h.op hx;exact hi _ d h1 h2⟩
theorem Opens.slice (h:Opens P W E Q e)(ht:P.underlying t=some (.slice e))(hc:P.cellsOf t=1)(hpos:0<E.sz):Opens P W (slE E) (λl=>∀x∈l,Q x) t:=by
 refine ⟨hc,λ{H enc fuel cs x} hx=>?_⟩;rcases Deep.open_slice ht hx with ⟨rfl,_⟩|⟨a,len,cap,m,n,D,Pl,rfl,_,hl,hm,hmm,_,hel⟩
 ·exact ⟨[],⟨_,rfl,Sl.nil _ _ _⟩,by simp⟩
 ·simp only[if_true] at hmm
  subst hmm;rcases Nat.eq_zero_or_pos m with rfl|hpm
  ·obtain rfl:len=0:=by omega
   exact ⟨[],⟨_,rfl,by simp,.inl ⟨_,rfl,rfl⟩⟩,by simp⟩
  ·have each:∀i,i<m->∃q:α,∃cs',W.cells? 0 (a.add (i*E.sz)) E.sz=some cs'∧E.rep W (λk=>k<W.heap.size) cs' q∧Q q:=by
    intro i hi;obtain ⟨cs',h1,h2⟩:=hel i hi;rw[h.sz] at h1;obtain ⟨d,h3,h4⟩:=h.op h2;exact ⟨d,cs',h1,h3,h4⟩
   obtain ⟨d0,_⟩:=each 0 hpm;haveI:Inhabited α:=⟨d0⟩
   obtain ⟨q,hq⟩:=Deep.choose_lt each;have hcell:∀i,i<m->∀j,j<E.sz->∃cs',E.rep W (λk=>k<W.heap.size) cs' (q i)∧cs'.length=E.sz∧W.cell? (a.add (i*E.sz+j))=cs'[j]? :=by
    intro i hi j hj;obtain ⟨cs',h1,h2,_⟩:=hq i hi;obtain ⟨_,hlen,hc⟩:=World.cells?_some h1;refine ⟨cs',h2,hlen,?_⟩;rw[<-hc j hj,Deep.add_add]
   obtain ⟨cs0,_,hl0,hc0⟩:=hcell 0 hpm 0 hpos;rw[Nat.zero_mul,List.getElem?_eq_getElem (by omega)] at hc0;obtain ⟨cur,ty,fr,hsp,hb⟩:=cell_at hc0;obtain ⟨b,off,spot⟩:=a;have hsp':spot=none:=by
    unfold Addr.add at hsp
    simpa using hsp
   subst hsp';have hb':W.heap[b]? =some (.cells cur ty fr):=by
    unfold Addr.add at hb
    simpa using hb
   have hcur:∀k v,W.cell? ⟨b,k,none⟩=some v->cur[k]? =some v:=by
    intro k v hk;unfold World.cell? at hk
    simpa[hb'] using hk
   refine ⟨(List.range len).map q,⟨_,rfl,by simp;omega,.inr ⟨b,off,m,cur,ty,fr,by simp,lt_of_some hb',hb',by simpa using hl,hm,?_,?_⟩⟩,?_⟩
   ·intro _
    obtain ⟨cs1,_,hl1,hc1⟩:=hcell (m-1) (by omega) (E.sz-1) (by omega);rw[List.getElem?_eq_getElem (by omega),Addr.add_none] at hc1;have h2:=(Array.getElem?_eq_some_iff.1 (hcur _ _ hc1)).1;have h3:(m-1)*E.sz+E.sz=m*E.sz:=by
     obtain ⟨m',rfl⟩:∃m',m=m'+1:=⟨m-1,by omega⟩
     rw[Nat.add_sub_cancel,Nat.add_mul,Nat.one_mul]
    omega
   ·intro i hi
    have hi2:i<len:=by simpa using hi
    obtain ⟨cs',h1,h2,_⟩:=hq i (by omega);obtain ⟨_,hlen,hc⟩:=World.cells?_some h1;have e1:(cur.toList.drop (off+i*E.sz)).take E.sz=cs':=by
     apply List.ext_getElem?
     intro j
     by_cases hj:j<E.sz
     ·rw [List.getElem?_take,if_pos hj,List.getElem?_drop]
      have h3:=hc j hj;rw[Deep.add_add,Addr.add_none,List.getElem?_eq_getElem (by omega)] at h3;have h4:=hcur _ _ h3;rw[List.getElem?_eq_getElem (l:=cs') (by omega),Array.getElem?_toList,Nat.add_assoc];exact h4
     ·rw [List.getElem?_eq_none (by rw[List.length_take];omega),List.getElem?_eq_none (by omega)]
    rw[e1]
    simpa using h2
   ·intro x hx
    obtain ⟨i,hi,rfl⟩:=List.mem_map.1 hx;obtain ⟨_,_,_,h3⟩:=hq i (by have:=List.mem_range.1 hi;omega);exact h3
theorem Opens.struct2 {f0 f1:Field}(ht:P.underlying t=some (.struct #[f0,f1]))(h0:Opens P W E Q f0.type)(h1:Opens P W E' Q' f1.type)(o0:f0.offset=0)(o1:f1.offset=E.sz)(hc:P.cellsOf t=E.sz+E'.sz):
 Opens P W (prE E E') (λx=>Q x.1∧Q' x.2) t:=by
 refine ⟨hc,λ{H enc fuel cs x} hx=>?_⟩;obtain ⟨xs,n,_,_,hlen,hxl,hf⟩:=DataW.trod_struct ht hx;have g0:=hf 0 f0 rfl;have g1:=hf 1 f1 rfl;have hx2:xs.length=2:=hxl;rw[List.getElem?_eq_getElem (by omega)] at g0 g1;rw[o0,List.drop_zero,h0.sz] at g0;rw[o1,h1.sz] at g1;obtain ⟨d0,a1,a2⟩:=h0.op g0;obtain ⟨d1,b1,b2⟩:=h1.op g1;refine ⟨(d0,d1),⟨_,_,?_,a1,b1⟩,a2,b2⟩;rw[List.take_of_length_le (l:=cs.drop E.sz) (by simp;omega),List.take_append_drop]
theorem Opens.arg (h:Opens P W E Q t){H:Type}{enc:TypeId×Value->H}{v:Value}{d:DataW H}{p:List MemPlace}(hd:DataW.Trod enc P W 0 (λ_=>true) true t v d p):∃d,E.rep W (λk=>k<W.heap.size) v.cells.toList d∧Q d:=by
 obtain ⟨fuel,hf⟩:=hd;exact h.op hf
theorem arg_slice {H:Type}{enc:TypeId×Value->H}{base:Nat}{v:Value}{d:DataW H}{p:List MemPlace}(h:Opens P W E Q e)(ht:P.underlying t=some (.slice e))(hc:P.cellsOf t=1)(hpos:0<E.sz)
 (hval:Value.okWide P W .any base t v)(hd:DataW.Trod enc P W 0 (λ_=>true) true t v d p):∃l:List α,Sl E W (λk=>k<W.heap.size) v l∧∀x∈l,Q x:=by
 obtain ⟨a,len,cap,rfl⟩:=okWide_slice ht hval;obtain ⟨l,⟨v',h1,h2⟩,h3⟩:=(h.slice ht hc hpos).arg hd;have e1:v'=.slice a len cap:=by simpa[Value.cells] using h1.symm
 subst e1;exact ⟨l,h2,h3⟩
end
end Go.Pn
end
section
namespace Go.Pn
open Go.ChangeShapes Go.WideShapes Go.ChangeAt Go.RowKit
section
variable {P:Program}{W:World}{α β γ:Type}{E:Enc α}{E':Enc β}{E'':Enc γ}{Q:α->Prop}{Q':β->Prop}{Q'':γ->Prop}{t e:TypeId}
theorem Opens.struct3 {f0 f1 f2:Field}(ht:P.underlying t=some (.struct #[f0,f1,f2]))(h0:Opens P W E Q f0.type)(h1:Opens P W E' Q' f1.type)(h2:Opens P W E'' Q'' f2.type)(o0:f0.offset=0)(o1:f1.offset=E.sz)(o2:f2.offset=E.sz+E'.sz)(hc:P.cellsOf t=E.sz+(E'.sz+E''.sz)):
 Opens P W (prE E (prE E' E'')) (λx=>Q x.1∧Q' x.2.1∧Q'' x.2.2) t:=by
 refine ⟨hc,λ{H enc fuel cs x} hx=>?_⟩;obtain ⟨xs,n,_,_,hlen,hxl,hf⟩:=DataW.trod_struct ht hx;have g0:=hf 0 f0 rfl;have g1:=hf 1 f1 rfl;have g2:=hf 2 f2 rfl;have hx2:xs.length=3:=hxl;rw[List.getElem?_eq_getElem (by omega)] at g0 g1 g2;rw[o0,List.drop_zero,h0.sz] at g0;rw[o1,h1.sz] at g1;rw[o2,h2.sz] at g2;obtain ⟨d0,a1,a2⟩:=h0.op g0;obtain ⟨d1,b1,b2⟩:=h1.op g1;obtain ⟨d2,c1,c2⟩:=h2.op g2;refine ⟨(d0,d1,d2),⟨_,_,?_,a1,⟨_,_,rfl,b1,c1⟩⟩,a2,b2,c2⟩;rw[<-List.drop_drop,List.take_of_length_le (l:=(cs.drop E.sz).drop E'.sz) (by simp;omega),List.take_append_drop,List.take_append_drop]
theorem Opens.marks {m:TypeId}{f0 f1 m0 m1 m2:Field}(htm:P.underlying m=some (.struct #[m0,m1,m2]))(htd:P.underlying m0.type=some (.struct #[f0,f1]))(u0:P.underlying f0.type=some (.int .i64))(u1:P.underlying f1.type=some (.int .i64))(v1:P.underlying m1.type=some (.int .i64))(v2:P.underlying m2.type=some (.int .u64))
 (c0:P.cellsOf f0.type=1)(c1:P.cellsOf f1.type=1)(cd:P.cellsOf m0.type=2)(d1:P.cellsOf m1.type=1)(d2:P.cellsOf m2.type=1)(cm:P.cellsOf m=4)(o0:f0.offset=0)(o1:f1.offset=1)(p0:m0.offset=0)(p1:m1.offset=2)(p2:m2.offset=3):Opens P W markF.enc (λ_=>True) m:=
 (Opens.struct3 htm (Opens.struct2 htd (Opens.int u0 c0) (Opens.int u1 c1) o0 o1 cd) (Opens.int v1 d1) (Opens.int v2 d2) p0 p1 p2 cm).imp rfl λcs d h hq=>by
   obtain ⟨_,_,rfl,⟨a,b,rfl,ha,hb⟩,c',e',rfl,hx,hy⟩:=h;obtain ⟨_,_,hw⟩:=hq;simp only[Lit.wf,Bool.and_eq_true,decide_eq_true_eq] at hw;have hlo:(0:Int)<=d.2.2:=hw.1;have hhi:d.2.2<=18446744073709551615:=hw.2;refine ⟨((d.1.1,d.1.2),d.2.1,BitVec.ofInt 64 d.2.2),?_,trivial⟩;have e4:((BitVec.ofInt 64 d.2.2).toNat:Int)=d.2.2:=by
    rw[BitVec.toNat_ofInt]
    omega
   rw[show a=[.int .i64 d.1.1] from ha,show b=[.int .i64 d.1.2] from hb];show _=[Value.int .i64 d.1.1,.int .i64 d.1.2,.int .i64 d.2.1,.int .u64 ((BitVec.ofInt 64 d.2.2).toNat:Int)];rw[e4];rw[show c'=[.int .i64 d.2.1] from hx,show e'=[.int .u64 d.2.2] from hy]
   rfl
theorem Opens.item {i m:TypeId}{f0 f1:Field}(hm:Opens P W markF.enc (λ_=>True) m)(hti:P.underlying i=some (.struct #[f0,f1]))(hs:P.underlying f0.type=some .string)(hsl:P.underlying f1.type=some (.slice m))(c0:P.cellsOf f0.type=1)(c1:P.cellsOf f1.type=1)(ci:P.cellsOf i=2)(o0:f0.offset=0)(o1:f1.offset=1):Opens P W itemE (λ_=>True) i:=
 (Opens.struct2 hti (Opens.str hs c0) (hm.slice hsl c1 (by decide)) o0 o1 ci).imp rfl λcs d h _=>by
   obtain ⟨a,b,rfl,ha,v,rfl,hv⟩:=h;refine ⟨(d.1,d.2),⟨v,?_,hv⟩,trivial⟩;rw[show a=[Go.Pn.str d.1] from ha]
   rfl
end
end Go.Pn
end
section
namespace Go.Pn
abbrev CartT:=(List Dt.Dot×List Dt.Dot)×List ItemT
abbrev EntT:=List UInt8×CartT
abbrev EntR:=List UInt8×((Raw×Raw)×Raw)
def cartE:Enc CartT:=prE (prE (slE Dt.dotF.enc) (slE Dt.dotF.enc)) (slE itemE)
def entE:Enc EntT:=prE strF.enc cartE
def entF:Flat EntR:=⟨4,λx=>[str x.1,slv x.2.1.1,slv x.2.1.2,slv x.2.2],λ_=>rfl,by simp[Value.oneCell',str,slv],by decide⟩
def CartAt (w:World)(F:Nat->Prop)(r:(Raw×Raw)×Raw)(c:CartT):Prop:=Sl Dt.dotF.enc w F (slv r.1.1) c.1.1∧Sl Dt.dotF.enc w F (slv r.1.2) c.1.2∧Sl itemE w F (slv r.2) c.2
section
variable {w w':World}{F F' M:Nat->Prop}{r:(Raw×Raw)×Raw}{c:CartT}
theorem CartAt.kM (h:CartAt w F r c)(e:Ext M w w')(hM:∀k,F k->¬M k):CartAt w' F r c:=⟨h.1.kM e hM,h.2.1.kM e hM,h.2.2.kM e hM⟩
theorem CartAt.keepA (h:CartAt w F r c)(e:Ext M w w')(hM:∀k,F k->¬M k:=by intro k hk h;first|(have q:=hF k hk;(try dsimp only at h);omega)|(have q:=hF2 k hk;(try dsimp only at h);omega)|(have q:=hFb k hk;(try dsimp only at h);omega)|((try dsimp only at hk);(try dsimp only at h);omega)):CartAt w' F r c:=CartAt.kM h e hM
theorem CartAt.L (h:CartAt w F r c)(e:Le w w'):CartAt w' F r c:=h.kM e λ_ _=>not_false
theorem CartAt.weak (h:CartAt w F r c)(hF:∀k,F k->F' k):CartAt w F' r c:=⟨h.1.weak hF,h.2.1.weak hF,h.2.2.weak hF⟩
theorem CartAt.weakA (h:CartAt w F r c)(hF:∀k,F k->F' k:=by intro q hq;(try dsimp only at hq);(try dsimp only);omega):CartAt w F' r c:=CartAt.weak h hF
end
def EntL (w:World)(F:Nat->Prop)(raw:List EntR)(l:List EntT):Prop:=raw.length=l.length∧∀i,∀h:i<raw.length,∀h':i<l.length,raw[i].1=l[i].1∧CartAt w F raw[i].2 l[i].2
section
variable {w w':World}{F F' M:Nat->Prop}{raw:List EntR}{l:List EntT}{v:Value}
theorem EntL.nil:EntL w F [] []:=⟨rfl,λi h=>by simp at h⟩
theorem EntL.at {k:Nat}(h:EntL w F raw l)(hk:k<l.length):∃(h9:k<raw.length) (r:EntR) (x:EntT),r=raw[k]∧x=l[k]∧r.1=x.1∧CartAt w F r.2 x.2:=⟨by have:=h.1;omega,raw[k]'(by have:=h.1;omega),l[k],rfl,rfl,h.2 k (by have:=h.1;omega) hk⟩
theorem EntL.kM (h:EntL w F raw l)(e:Ext M w w')(hM:∀k,F k->¬M k):EntL w' F raw l:=⟨h.1,λi h1 h2=>⟨(h.2 i h1 h2).1,(h.2 i h1 h2).2.kM e hM⟩⟩
theorem EntL.keepA (h:EntL w F raw l)(e:Ext M w w')(hM:∀k,F k->¬M k:=by intro k hk h;first|(have q:=hF k hk;(try dsimp only at h);omega)|(have q:=hF2 k hk;(try dsimp only at h);omega)|(have q:=hFb k hk;(try dsimp only at h);omega)|((try dsimp only at hk);(try dsimp only at h);omega)):EntL w' F raw l:=EntL.kM h e hM
theorem EntL.L (h:EntL w F raw l)(e:Le w w'):EntL w' F raw l:=h.kM e λ_ _=>not_false
theorem EntL.weak (h:EntL w F raw l)(hF:∀k,F k->F' k):EntL w F' raw l:=⟨h.1,λi h1 h2=>⟨(h.2 i h1 h2).1,(h.2 i h1 h2).2.weak hF⟩⟩
theorem EntL.weakA (h:EntL w F raw l)(hF:∀k,F k->F' k:=by intro q hq;(try dsimp only at hq);(try dsimp only);omega):EntL w F' raw l:=EntL.weak h hF
theorem EntL.snoc {a:EntR}{x:EntT}(h:EntL w F raw l)(hn:a.1=x.1)(hm:CartAt w F a.2 x.2):EntL w F (raw++[a]) (l++[x]):=by
 refine ⟨by simp[h.1],λi h1 h2=>?_⟩;have hl:=h.1;simp only[List.length_append,List.length_cons,List.length_nil] at h1
 by_cases hi:i<raw.length
 ·rw [List.getElem_append_left hi,List.getElem_append_left (by omega)]
  exact h.2 i hi (by omega)
 ·have e1:i=raw.length:=by omega
  subst e1;rw[List.getElem_append_right (by omega),List.getElem_append_right (by omega)];simp only[Nat.sub_self,hl,List.getElem_cons_zero];exact ⟨hn,hm⟩
end
end Go.Pn
end
section
namespace Go.Pn
def CartF (td ti tm:TypeId)(w:World)(F:Nat->Prop)(r:(Raw×Raw)×Raw)(c:CartT):Prop:=Fre Dt.dotF td w F (slv r.1.1) c.1.1∧Fre Dt.dotF td w F (slv r.1.2) c.1.2∧SlI ti tm w F (slv r.2) c.2
section
variable {td ti tm te:TypeId}{w w':World}{F F' M G G':Nat->Prop}{r:(Raw×Raw)×Raw}{c:CartT}
theorem CartF.kM (h:CartF td ti tm w F r c)(e:Ext M w w')(hM:∀k,F k->¬M k):CartF td ti tm w' F r c:=⟨h.1.kM e hM,h.2.1.kM e hM,h.2.2.kM e hM⟩
theorem CartF.keepA (h:CartF td ti tm w F r c)(e:Ext M w w')(hM:∀k,F k->¬M k:=by intro k hk h;first|(have q:=hF k hk;(try dsimp only at h);omega)|(have q:=hF2 k hk;(try dsimp only at h);omega)|(have q:=hFb k hk;(try dsimp only at h);omega)|((try dsimp only at hk);(try dsimp only at h);omega)):CartF td ti tm w' F r c:=CartF.kM h e hM
theorem CartF.weak (h:CartF td ti tm w F r c)(hF:∀k,F k->F' k):CartF td ti tm w F' r c:=⟨h.1.weak hF,h.2.1.weak hF,h.2.2.weak hF⟩
theorem CartF.weakA (h:CartF td ti tm w F r c)(hF:∀k,F k->F' k:=by intro q hq;(try dsimp only at hq);(try dsimp only);omega):CartF td ti tm w F' r c:=CartF.weak h hF
def EntsD (td ti tm:TypeId)(w:World)(G:Nat->Prop)(lo hi:Nat)(raw:List EntR)(l:List EntT):Prop:=
 raw.length=l.length∧∃b:Nat->Nat,(lo<=b 0∧b l.length<=hi)∧(∀i,b i<=b (i+1))∧∀i,∀h:i<raw.length,∀h':i<l.length,raw[i].1=l[i].1∧CartF td ti tm w (λj=>G j∧b i<=j∧j<b (i+1)) raw[i].2 l[i].2
variable {raw:List EntR}{l:List EntT}{lo hi:Nat}{v:Value}
theorem mono_of {b:Nat->Nat}(h:∀i,b i<=b (i+1)){i j:Nat}(hij:i<=j):b i<=b j:=by
 induction hij with
 |refl=>exact Nat.le_refl _
 |step _ ih=>exact Nat.le_trans ih (h _)
theorem EntsD.kM (h:EntsD td ti tm w G lo hi raw l)(e:Ext M w w')(hM:∀k,G k->lo<=k->k<hi->¬M k):EntsD td ti tm w' G lo hi raw l:=by
 obtain ⟨h0,b,⟨h1,h2⟩,h3,h4⟩:=h;refine ⟨h0,b,⟨h1,h2⟩,h3,λi k1 k2=>⟨(h4 i k1 k2).1,(h4 i k1 k2).2.kM e λk hk=>hM k hk.1 ?_ ?_⟩⟩
 ·have:=mono_of h3 (Nat.zero_le i);omega
 ·have:=mono_of h3 (show i+1<=l.length by omega);omega
theorem EntsD.keepA (h:EntsD td ti tm w G lo hi raw l)(e:Ext M w w')(hM:∀k,G k->lo<=k->k<hi->¬M k:=by intro k hk h;first|(have q:=hF k hk;(try dsimp only at h);omega)|(have q:=hF2 k hk;(try dsimp only at h);omega)|(have q:=hFb k hk;(try dsimp only at h);omega)|((try dsimp only at hk);(try dsimp only at h);omega)):EntsD td ti tm w' G lo hi raw l:=EntsD.kM h e hM
def SlE (te td ti tm:TypeId)(w:World)(lo hi:Nat)(v:Value)(l:List EntT):Prop:=∃raw,Fre entF te w (λj=>lo<=j∧j<hi) v raw∧EntsD td ti tm w (λj=>¬bk v j) lo hi raw l
theorem SlE.kM (h:SlE te td ti tm w lo hi v l)(e:Ext M w w')(hM:∀k,lo<=k->k<hi->¬M k):SlE te td ti tm w' lo hi v l:=by
 obtain ⟨raw,h1,h2⟩:=h;exact ⟨raw,h1.kM e λk hk=>hM k hk.1 hk.2,h2.kM e λk _=>hM k⟩
theorem SlE.keepA (h:SlE te td ti tm w lo hi v l)(e:Ext M w w')(hM:∀k,lo<=k->k<hi->¬M k:=by intro k hk h;first|(have q:=hF k hk;(try dsimp only at h);omega)|(have q:=hF2 k hk;(try dsimp only at h);omega)|(have q:=hFb k hk;(try dsimp only at h);omega)|((try dsimp only at hk);(try dsimp only at h);omega)):SlE te td ti tm w' lo hi v l:=SlE.kM h e hM
theorem EntL.append {raw':List EntR}{l':List EntT}(h:EntL w F raw l)(h':EntL w F raw' l'):EntL w F (raw++raw') (l++l'):=by
 refine ⟨by rw[List.length_append,List.length_append,h.1,h'.1],λi h1 h2=>?_⟩;have e0:=h.1;simp only[List.length_append] at h1 h2
 by_cases hi:i<raw.length
 ·rw [List.getElem_append_left hi,List.getElem_append_left (by omega)];exact h.2 i hi (by omega)
 ·rw [List.getElem_append_right (by omega),List.getElem_append_right (by omega)]
  have:=h'.2 (i-raw.length) (by omega) (by rw[<-h'.1];omega);simp only[e0] at this ⊢;exact this
end
end Go.Pn
end
section
namespace Go.Pn
open Go.RowKit
def bare (w:World):World:={w with heap:=#[]}
theorem Ext.bare {M:Nat->Prop}{w w':World}(h:Ext M w w'):Le (Go.Pn.bare w) w':=⟨h.os,h.tape,h.output,Nat.zero_le _,λ_ hk _=>absurd hk (Nat.not_lt_zero _)⟩
theorem zeroCells_flat {α:Type}{G:Flat α}{z:Value}{zx:α}(hzx:z.cells.toList=G.e zx)(n:Nat):(Builtin.zeroCells z.cells n).toList=(List.replicate n zx).flatMap G.e:=by
 have hzsz:z.cells.size=G.sz:=by rw[<-Array.length_toList,hzx,G.len]
 apply List.ext_getElem?
 intro j
 by_cases hj:j<n*G.sz
 ·have hlt:j<((List.replicate n zx).flatMap G.e).length:=by rw[G.length];simpa using hj
  obtain ⟨hi,hu⟩:=G.get (List.replicate n zx) (List.getElem?_eq_getElem hlt);rw[List.getElem?_eq_getElem hlt,<-hu];have hjm:j%G.sz<z.cells.size:=by rw[hzsz];exact Nat.mod_lt _ G.pos
  simp only[Builtin.zeroCells,Array.toList_map,Array.toList_range,List.getElem?_map];rw[hzsz,List.getElem?_range hj];simp only[Option.map_some,List.getElem_replicate];rw[getElem!_pos z.cells _ hjm,<-hzx,Array.getElem?_toList,Array.getElem?_eq_getElem hjm]
 ·rw [List.getElem?_eq_none (by simp[Builtin.zeroCells,hzsz];omega),List.getElem?_eq_none (by rw[G.length];simp;omega)]
section
variable
 {d:Nat}{x y:Operand}{t t' tn ty tr e:TypeId}{pos:String}{after:Array Edge}{α:Type}{G:Flat α}{F:Nat->Prop}
theorem O.capL {l:Option Addr}{k c:Nat}(ht:P.underlying t=some (.slice e))(hx:ev n f x=.slice l k c)(h:O P n ops rest N Z (upd f d (i64 c)) w):
 O P n ops (ZO d (.call {callee:=.builtin .cap,args:=[x].toArray,argTypes:=[t].toArray}) ty pos after::rest) N Z f w:=
 O.val rfl rfl (by
  simp[execOp,resolve,invoke,builtin,hx,Builtin.cap_,run_underlying ht,goInt]) h
theorem O.appZ {i:TypeInfo}{z:Value}{zx:α}{k kn:IntKind}{m B:Nat}(ht:P.underlying t=some (.slice e))(htn:P.underlying tn=some (.int kn))(hi:P.info? e=some i)(hz:i.zero=some z)(hsz:i.size=G.sz)(hzx:z.cells.toList=G.e zx)
 (hx:ev n f x=.slice none 0 0)(hy:ev n f y=.int k (m:Int))(h0:0<m)(hb:m*i.bytes<=281474976710656)(hm:m<=maxLen)(hB:B<=w.heap.size)
 (h:∀b cap w',w.heap.size<=b->m<=cap->OwnF G e B w' (.slice (some ⟨b,0,none⟩) m cap) (List.replicate m zx)->Le w w'->O P n ops rest N Z (upd f d (.slice (some ⟨b,0,none⟩) m cap)) w'):
 O P n ops (ZO d (.call {callee:=.builtin .append,args:=[x,y].toArray,argTypes:=[t,tn].toArray}) tr pos after::rest) N Z f w:=by
 have hr:=Go.Lib.run_append_nil_zeros (P:=P) w t tn tr e i z k kn ht htn hi hz m h0 (by rw[hsz];exact G.pos) (by unfold maxLen at hm;omega) hb;have hge:=grownCap_ge w m 0 e;have hcm:grownCap w m 0 e<=maxLen:=grownCap_le_maxLen w m 0 e hm;have hzsz:z.cells.size=G.sz:=by rw[<-Array.length_toList,hzx,G.len]
 obtain ⟨w1,hw1⟩:∃w1,w1=w.drew.alloc (.cells (Builtin.zeroCells z.cells m++Builtin.zeroCells z.cells (grownCap w m 0 e-m)) e):=⟨_,rfl⟩
 rw[<-hw1] at hr;have hblk:w1.heap[w.heap.size]? =some (.cells (Builtin.zeroCells z.cells m++Builtin.zeroCells z.cells (grownCap w m 0 e-m)) e (0,0)):=by rw[hw1];exact heap_alloc_new w.drew _
 have hle:Le w w1:=by rw[hw1];exact (Le.drew w).trans (Le.alloc _ _)
 refine O.val rfl rfl (w':=w1) ?_ (h w.heap.size (grownCap w m 0 e) w1 (Nat.le_refl _) hge ?_ hle)
 ·have h3:(execOp (ev n f) (ZO d (.call {callee:=.builtin .append,args:=[x,y].toArray,argTypes:=[t,tn].toArray}) tr pos after)).run P w=((Builtin.append_ #[t,tn] tr #[ev n f x,ev n f y]).run P w).andThen (λv w=>.ok (.value v) w):=by
   simp[execOp,resolve,invoke,builtin]
  rw[h3,hx,hy,hr]
  rfl
 ·refine ⟨⟨by rw[G.length],.inr ⟨w.heap.size,_,_,by simp,hB,hblk,by simpa using hge,hcm,?_,?_⟩⟩,by simpa using hm⟩
  ·simp only[Array.size_append,size_zeroCells,hzsz,<-Nat.add_mul]
   congr 1
   omega
  ·rw [Array.toList_append,zeroCells_flat hzx,List.take_append_of_le_length (by rw[G.length];exact Nat.le_refl _),<-G.length,List.take_length]
theorem O.subNil {s:Nat}{kk:IntKind}{hi:Operand}(ht:P.underlying t=some (.slice e))(hsz:∀w,(sizeOf e).run P w=.ok s w)(hx:ev n f x=.slice none 0 0)(hhi:ev n f hi=.int kk 0)
 (h:O P n ops rest N Z (upd f d (.slice none 0 0)) w):
 O P n ops (ZO d (.slice t x .none (some hi) .none) tr pos after::rest) N Z f w:=by
 refine O.val rfl rfl ?_ h;have h3:execOp (ev n f) (ZO d (.slice t x .none (some hi) .none) tr pos after)=(do pure (.value (<-Instr.sliceAt t (ev n f x) .none (some (ev n f hi)) .none))):=rfl;have hbl:(Instr.sliceBound (.int kk 0) 0 .sliceAcap).run P w=.ok 0 w:=by
  simp[Instr.sliceBound,asIntOf]
 have h4:(Instr.sliceAt t (.slice none 0 0) .none (some (.int kk 0)) .none).run P w=.ok (.slice none 0 0) w:=by
  unfold Instr.sliceAt;rw[Sem.run_bind,run_underlying ht,Result.andThen_ok];simp only[];unfold Instr.slice;rw[Sem.run_bind,run_underlying ht,Result.andThen_ok]
  simp[Instr.sliceBounds,hsz,hbl]
 rw[h3,Sem.run_bind,hx,hhi,h4]
 rfl
end
theorem nil_form {n:Nat}{f:Val}{d:Nat}{x:Operand}{a:Addr}{ty:TypeId}{pos:String}{after:Array Edge}(hx:ev n f x=.pointer (some a)):
 ∃X:Sem Value,execOp (ev n f) (ZO d (.nilCheck x) ty pos after)=(do pure (.value (<-X))):=
 ⟨pure (.pointer (some a)),by simp[execOp,hx]⟩
open Go.Lib
section
variable
 {d:Nat}{x y:Operand}{t t' tn ty tr e:TypeId}{pos:String}{after:Array Edge}{α:Type}{F:Nat->Prop}
end
def sliE {α:Type}(E:Enc α):Enc (List α) where
 sz:=1
 rep:=λw F cs xs=>∃v,cs=[v]∧Sl E w F v xs
 len:=by rintro w F cs x ⟨v,rfl,_⟩;rfl
 one:=by
  rintro w F cs x ⟨v,rfl,h⟩ c hc;obtain rfl:c=v:=by simpa using hc
  exact h.oneC
 ext:=by rintro w w' F cs x ⟨v,rfl,h⟩ hw;exact ⟨v,rfl,h.ext hw⟩
 weak:=by rintro w F F' cs x ⟨v,rfl,h⟩ hF;exact ⟨v,rfl,h.weak hF⟩
theorem Sl.lits {α:Type}{E:Enc α}{w:World}{F:Nat->Prop}{b:Nat}{ty:TypeId}{vs:List Value}{xss:List (List α)}(h:Own w b ty vs)(hl:vs.length=xss.length)(hm:xss.length<=maxLen)
 (hs:∀i,∀h1:i<vs.length,∀h2:i<xss.length,Sl E w F vs[i] xss[i]):Sl (sliE E) w (λk=>k=b∨F k) (.slice (some ⟨b,0,none⟩) xss.length xss.length) xss:=by
 obtain ⟨fr,hb,_⟩:=h;refine ⟨hm,.inr ⟨b,0,xss.length,_,ty,fr,rfl,.inl rfl,hb,Nat.le_refl _,hm,?_,λi hi=>?_⟩⟩
 ·intro _
  show 0+xss.length*1<=_
  simp[hl]
 ·refine ⟨vs[i]'(by omega),?_,(hs i (by omega) hi).weak λk hk=>.inr hk⟩
  show (vs.drop (0+i*1)).take 1=_;rw[Nat.zero_add,Nat.mul_one,List.drop_eq_getElem_cons (by omega),List.take_succ_cons,List.take_zero]
theorem Sl.lits1 {α:Type}{E:Enc α}{w:World}{F:Nat->Prop}{b:Nat}{ty:TypeId}{v:Value}{xs:List α}(h:Own w b ty [v])(hs:Sl E w F v xs):Sl (sliE E) w (λk=>k=b∨F k) (.slice (some ⟨b,0,none⟩) 1 1) [xs]:=
 Sl.lits (xss:=[xs]) h rfl (by unfold maxLen;simp) λi h1 h2=>by
  obtain rfl:i=0:=by simp at h1;omega
  exact hs
theorem Sl.lits2 {α:Type}{E:Enc α}{w:World}{F F':Nat->Prop}{b:Nat}{ty:TypeId}{v v':Value}{xs xs':List α}(h:Own w b ty [v,v'])(hs:Sl E w F v xs)(hs':Sl E w F' v' xs'):Sl (sliE E) w (λk=>k=b∨(F k∨F' k)) (.slice (some ⟨b,0,none⟩) 2 2) [xs,xs']:=
 Sl.lits (xss:=[xs,xs']) h rfl (by unfold maxLen;simp) λi h1 h2=>by
  have h3:i=0∨i=1:=by simp at h1;omega
  rcases h3 with rfl|rfl
  ·exact hs.weak λk hk=>.inl hk
  ·exact hs'.weak λk hk=>.inr hk
section
variable
 {d:Nat}{x y:Operand}{t tr e:TypeId}{pos:String}{after:Array Edge}{α:Type}{E:Enc α}{F:Nat->Prop}
theorem O.loadSl {a:Addr}{z:List α}(hag:∀w,(isAgg t).run P w=.ok false w)(hx:ev n f x=.pointer (some a))(ha:At (sliE E) w F a z)
 (h:∀v,Sl E w F v z->O P n ops rest N Z (upd f d v) w):
 O P n ops (ZO d (.load t x) tr pos after::rest) N Z f w:=
 O.load1 hag rfl hx ha λv hv=>by
  obtain ⟨v',h1,h2⟩:=hv;obtain rfl:v=v':=by simpa using h1
  exact h v h2
theorem O.indexA {k:IntKind}{len:Nat}{i:Int}{cs:List Value}{v:Value}(ht:P.underlying t=some (.array len e))(hag:∀w,(isAgg e).run P w=.ok false w)(hsz:∀w,(sizeOf e).run P w=.ok 1 w)(hx:ev n f x=.agg cs.toArray)(hy:ev n f y=.int k i)(hi:0<=i∧i<len)
 (hv:cs[i.toNat]? =some v)(h:O P n ops rest N Z (upd f d v) w):
 O P n ops (ZO d (.index t x y) tr pos after::rest) N Z f w:=
 O.val rfl rfl (by
  have h2:(Instr.index t (.agg cs.toArray) (.int k i)).run P w=.ok v w:=by
   unfold Instr.index;rw[Sem.run_bind];show Result.andThen (Result.ok (k,i) w) _=_;rw[Result.andThen_ok,Sem.run_bind,run_underlying ht,Result.andThen_ok]
   simp[hi.1,hi.2,hsz,part,hag,hv]
  have h3:execOp (ev n f) (ZO d (.index t x y) tr pos after)=(do pure (.value (<-Instr.index t (ev n f x) (ev n f y)))):=rfl;rw[h3,Sem.run_bind,hx,hy,h2]
  rfl) h
end
theorem Wr.lst {ty te:TypeId}{w:World}{bw g:Nat}{xs ys:List UInt8}(h:Wr ty te w bw g xs)(e:xs=ys):Wr ty te w bw g ys:=e ▸ h
end Go.Pn
end
section
namespace Go.Pn
open Go.RowKit
def OG {α:Type}(G:Flat α)(ty:TypeId)(w:World)(v:Value)(g:Nat)(xs:List α):Prop:=OwnF G ty 0 w v xs∧(∀k,bk v k->k=g)∧g<w.heap.size
section
variable {α:Type}{G:Flat α}{ty:TypeId}{w w':World}{v:Value}{g B:Nat}{xs ys:List α}
theorem OG.kM {M:Nat->Prop}(h:OG G ty w v g xs)(e:Ext M w w')(hM:∀k,k=g->¬M k):OG G ty w' v g xs:=⟨h.1.kM e λk hk=>hM k (h.2.1 k hk),h.2.1,e.lt h.2.2⟩
theorem OG.keepA {M:Nat->Prop}(h:OG G ty w v g xs)(e:Ext M w w')(hM:∀k,k=g->¬M k:=by intro k hk h;first|(have q:=hF k hk;(try dsimp only at h);omega)|(have q:=hF2 k hk;(try dsimp only at h);omega)|(have q:=hFb k hk;(try dsimp only at h);omega)|((try dsimp only at hk);(try dsimp only at h);omega)):OG G ty w' v g xs:=OG.kM h e hM
theorem OG.L (h:OG G ty w v g xs)(e:Le w w'):OG G ty w' v g xs:=h.kM e λ_ _=>not_false
theorem OG.bk (h:OG G ty w v g xs)(hne:0<xs.length):Go.Pn.bk v g:=by
 obtain ⟨g',cap,cs,rfl,_⟩:=h.1.block hne;obtain rfl:=h.2.1 g' rfl;exact rfl
end
section
variable
 {d:Nat}{x y:Operand}{t t' ty tr e:TypeId}{pos:String}{after:Array Edge}{α:Type}{G:Flat α}{F:Nat->Prop}
theorem O.appG {i:TypeInfo}{z v v2:Value}{xs ys:List α}{g:Nat}(ht:P.underlying t=some (.slice e))(hi:P.info? e=some i)(hz:i.zero=some z)(hsz:i.size=G.sz)(hzs:z.cells.size=G.sz)
 (hx:ev n f x=v)(hy:ev n f y=v2)(hown:OG G e w v g xs)(hv2:Sl G.enc w F v2 ys)(hb:(xs.length+ys.length)*i.bytes<=140737488355328)(hl:xs.length+ys.length<=maxLen)
 (h:∀v' g' w',OG G e w' v' g' (xs++ys)->(g'=g∨w.heap.size<=g')->Ext (bk v) w w'->(∀k,bk v' k->bk v k∨w.heap.size<=k)->O P n ops rest N Z (upd f d v') w'):
 O P n ops (ZO d (.call {callee:=.builtin .append,args:=[x,y].toArray,argTypes:=[t,t].toArray}) tr pos after::rest) N Z f w:=by
 refine O.appW ht hi hz hsz hzs hx hy hown.1 hv2 hb hl (Nat.zero_le _) λv' w' ho he hw=>?_
 by_cases hq:∃k,bk v' k
 ·obtain ⟨k,hk⟩:=hq
  have huniq:∀j,bk v' j->j=k:=by
   intro j hj;cases v' with
   |slice a n c=>
    cases a with
    |none=>exact hj.elim
    |some a=>simp only[bk] at hj hk;rw[hj,hk]
   |_=>exact hj.elim
  refine h v' k w' ⟨ho,huniq,(ho.bk_ge k hk).2⟩ ?_ he hw;rcases hw k hk with q|q
  ·exact .inl (hown.2.1 k q)
  ·exact .inr q
 ·exact h v' g w' ⟨ho,λk hk=>absurd ⟨k,hk⟩ hq,he.lt hown.2.2⟩ (.inl rfl) he hw
end
theorem OG.nil {α:Type}{G:Flat α}{ty:TypeId}{w:World}{g:Nat}(h:g<w.heap.size):OG G ty w (.slice none 0 0) g []:=⟨OwnF.nil _ _ _ _,λ_ h=>h.elim,h⟩
end Go.Pn
end
section
namespace Go.Pn
open Go.RowKit
section
variable
 {d:Nat}{x y:Operand}{t ty tr e:TypeId}{pos:String}{after:Array Edge}{α:Type}{G:Flat α}{F:Nat->Prop}
theorem O.subC {s g m k cap:Nat}{kk:IntKind}{hi:Operand}(ht:P.underlying t=some (.slice e))(hsz:∀w,(sizeOf e).run P w=.ok s w)(hx:ev n f x=.slice (some ⟨g,0,none⟩) m cap)(hhi:ev n f hi=.int kk (k:Int))(h1:k<=cap)
 (h:O P n ops rest N Z (upd f d (.slice (some ⟨g,0,none⟩) k cap)) w):
 O P n ops (ZO d (.slice t x .none (some hi) .none) tr pos after::rest) N Z f w:=by
 refine O.val rfl rfl ?_ h;have h3:execOp (ev n f) (ZO d (.slice t x .none (some hi) .none) tr pos after)=(do pure (.value (<-Instr.sliceAt t (ev n f x) .none (some (ev n f hi)) .none))):=rfl;have hbl:(Instr.sliceBound (.int kk (k:Int)) cap .sliceAcap).run P w=.ok k w:=by
  have:(k:Int)<=cap:=by omega
  simp[Instr.sliceBound,asIntOf,this]
 have h4:(Instr.sliceAt t (.slice (some ⟨g,0,none⟩) m cap) .none (some (.int kk (k:Int))) .none).run P w=.ok (.slice (some ⟨g,0,none⟩) k cap) w:=by
  unfold Instr.sliceAt;rw[Sem.run_bind,run_underlying ht,Result.andThen_ok];simp only[];unfold Instr.slice;rw[Sem.run_bind,run_underlying ht,Result.andThen_ok]
  simp[Instr.sliceBounds,hsz,hbl,Addr.add_none]
 rw[h3,Sem.run_bind,hx,hhi,h4]
 rfl
end
end Go.Pn
end
section
namespace Go.Pn
section
end
section
variable
 {d:Nat}{x y:Operand}{t t' ty:TypeId}{pos:String}{after:Array Edge}{a b:Int}{k:IntKind}
theorem O.lssK (hx:ev n f x=.int k a)(hy:ev n f y=.int k b)(h:O P n ops rest N Z (upd f d (.bool (decide (a<b)))) w):
 O P n ops (ZO d (.binOp .lss t x y t') ty pos after::rest) N Z f w:=
 O.val rfl rfl (by simp[execOp,hx,hy,eqGuard,binOp,Op.intCmp]) h
end
end Go.Pn
end
section
namespace Go.Pn
section
variable {P:Program}{n:Nat}{N:Val->World->Prop}{X:Nat->Val->World->Prop}{R:Val->World->Prop}{Z:List PanicEntry->World->Prop}{f:Val}{w:World}{c:Code}
theorem C.scope (h:C P n c N X R Z f w):C P n (.scope c) N X R Z f w:=by
 refine wp_scope_straight (wp_mono h ?_);intro e a w he;cases e with
 |normal=>exact he
 |exit i=>exact he
 |goto l=>exact he
 |ret=>exact he
 |panic ch=>exact he
 |outgrown=>exact he
end
section
variable
 {d:Nat}{x y:Operand}{t t' ty:TypeId}{pos:String}{after:Array Edge}{a b:Int}{k:IntKind}
theorem O.leqK (hx:ev n f x=.int k a)(hy:ev n f y=.int k b)(h:O P n ops rest N Z (upd f d (.bool (decide (a<=b)))) w):
 O P n ops (ZO d (.binOp .leq t x y t') ty pos after::rest) N Z f w:=
 O.val rfl rfl (by simp[execOp,hx,hy,eqGuard,binOp,Op.intCmp]) h
theorem O.eqlK (hx:ev n f x=.int k a)(hy:ev n f y=.int k b)(h:O P n ops rest N Z (upd f d (.bool (decide (a=b)))) w):
 O P n ops (ZO d (.binOp .eql t x y t') ty pos after::rest) N Z f w:=
 O.val rfl rfl (by
  have e:(a==b)=decide (a=b):=by by_cases h:a=b<;>simp[h]
  simp[execOp,hx,hy,eqGuard,binOp,Op.intCmp,e]) h
theorem O.convBK {c:BitVec 8}{k:IntKind}(ht:P.underlying t=some (.int k))(ht':P.underlying t'=some (.int .i32))(hx:ev n f x=.int .u8 (c.toNat:Int))
 (h:O P n ops rest N Z (upd f d (.int .i32 (c.toNat:Int))) w):
 O P n ops (ZO d (.convert t t' x) ty pos after::rest) N Z f w:=
 O.val rfl rfl (by
  have hc:=c.isLt;have e:IntKind.i32.wrap (c.toNat:Int)=(c.toNat:Int):=by simp[IntKind.wrap,IntKind.bits,IntKind.signed];omega
  simp[execOp,hx,convert,run_underlying ht,run_underlying ht',Conv.intToInt,e]) h
theorem O.convKS {l:List UInt8}(ht:P.underlying t=some (.int k))(ht':P.underlying t'=some .string)(hx:ev n f x=.int k a)(hl:Utf8.encode a=⟨l.toArray⟩)
 (h:O P n ops rest N Z (upd f d (str l)) w):
 O P n ops (ZO d (.convert t t' x) ty pos after::rest) N Z f w:=
 O.val rfl rfl (by simp[execOp,hx,convert,run_underlying ht,run_underlying ht',Conv.intToString,hl,str]) h
end
def two (c:Nat):List UInt8:=[UInt8.ofNat (192+c/64),UInt8.ofNat (128+c%64)]
theorem encode_two {c:Nat}(h1:128<=c)(h2:c<256):Utf8.encode (c:Int)=⟨(two c).toArray⟩:=by
 have hv:Utf8.valid (c:Int)=true:=by unfold Utf8.valid;simp;omega
 unfold Utf8.encode;rw[hv];simp only[if_true,Int.toNat_natCast];rw[if_neg (by omega),if_pos (by omega)]
 rfl
section
variable {α:Type}{G:Flat α}{P:Program}{n:Nat}{ops rest:List Oper}{N:Val->World->Prop}{Z:List PanicEntry->World->Prop}{f:Val}{w:World}
 {d:Nat}{x:Operand}{t tr:TypeId}{pos:String}{after:Array Edge}
theorem O.loadPart {F:Nat->Prop}{a:Addr}{z:α}{off s:Nat}(hag:∀w,(isAgg t).run P w=.ok true w)(hs:∀w,(sizeOf t).run P w=.ok s w)(hle:off+s<=G.sz)(hx:ev n f x=.pointer (some (a.add off)))(ha:At G.enc w F a z)
 (h:O P n ops rest N Z (upd f d (.agg (((G.e z).drop off).take s).toArray)) w):O P n ops (ZO d (.load t x) tr pos after::rest) N Z f w:=by
 refine O.val rfl rfl ?_ h;obtain ⟨cs,hr,hc⟩:=ha.cellAt;have e:cs=G.e z:=hr;subst e;have hl:(((G.e z).drop off).take s).length=s:=by simp[G.len];omega
 have hadd:∀j,(a.add off).add j=a.add (off+j):=λj=>by
  obtain ⟨b,o,cur,ty,fr,rfl,_⟩:=ha;rw[Addr.add_none,Addr.add_none,Addr.add_none,Nat.add_assoc]
 have h5:=run_loadCells_list (P:=P) w (a.add off) (((G.e z).drop off).take s) λj v hj=>by
  rw[List.getElem?_take] at hj
  split at hj
  ·rw [List.getElem?_drop] at hj;rw[hadd];exact hc _ _ hj
  ·cases hj
 rw[hl] at h5;have h3:execOp (ev n f) (ZO d (.load t x) tr pos after)=(do pure (.value (<-Instr.loadAt t (ev n f x)))):=rfl;rw[h3,Sem.run_bind,hx];have h4:(Instr.loadAt t (.pointer (some (a.add off)))).run P w=.ok (.agg (((G.e z).drop off).take s).toArray) w:=by
  simp[Instr.loadAt,Instr.sureAddr,loadVar,hag,hs,h5]
 rw[h4]
 rfl
end
end Go.Pn
end
section
namespace Go.Pn
open Go.RowKit Go.Sort Go.Proofs
section
variable {α:Type}[Inhabited α]{G:Flat α}{ty:TypeId}{B:Nat}{w:World}{l:List α}{g cap:Nat}
theorem flatK_list (G:Flat α)(l:List α):(flatK G.e G.sz l.toArray).toList=l.flatMap G.e:=by
 apply List.ext_getElem?
 intro t
 by_cases ht:t<l.length*G.sz
 ·have h1:t<(l.flatMap G.e).length:=by rw[G.length];exact ht
  obtain ⟨hi,hu⟩:=G.get l (List.getElem?_eq_getElem h1);have h2:t<(flatK G.e G.sz l.toArray).size:=by rw[size_flatK];simpa using ht
  rw[Array.getElem?_toList,Array.getElem?_eq_getElem h2,List.getElem?_eq_getElem h1]
  congr 1
  have h3:=get_flatK G.e G.sz l.toArray t (by simpa using ht);rw[getElem!_pos _ t h2] at h3;rw[h3];have h4:l.toArray[t/G.sz]! =l[t/G.sz]:=by
   rw[getElem!_pos l.toArray _ (by simpa using hi)]
   simp
  rw[h4,List.getElem!_eq_getElem?_getD,hu]
  rfl
 ·rw [List.getElem?_eq_none (by rw[Array.length_toList,size_flatK];simpa using ht),List.getElem?_eq_none (by rw[G.length];omega)]
theorem OwnF.holdsK (h:OwnF G ty B w (.slice (some ⟨g,0,none⟩) l.length cap) l):HoldsK G.e G.sz w g 0 l.toArray∧g<w.heap.size:=by
 obtain ⟨h0,hm⟩:=h;rcases h0.2 with ⟨h1,_⟩|⟨g',cap',cur,h1,hb,hg,hn,hc,hsz,ht⟩
 ·cases h1
 ·have e1:g=g':=by cases h1;rfl
  subst e1;refine ⟨?_,lt_of_some hg⟩;intro j hj;rw[size_flatK] at hj;have hj2:j<l.length*G.sz:=by simpa using hj
  have hjc:j<cur.size:=by
   have:=Nat.mul_le_mul_right G.sz hn;have e2:cap=cap':=by cases h1;rfl
   omega
  have hcell:cur[j]? =some (id (flatK G.e G.sz l.toArray)[j]!):=by
   have h2:j<(flatK G.e G.sz l.toArray).size:=by rw[size_flatK];exact hj
   have h3:(flatK G.e G.sz l.toArray)[j]? =cur[j]? :=by
    rw[<-Array.getElem?_toList,flatK_list,<-ht,List.getElem?_take,if_pos hj2,Array.getElem?_toList]
   rw[<-h3,getElem!_pos _ j h2,Array.getElem?_eq_getElem h2]
   rfl
  constructor
  ·simp only[World.cell?,hg,Nat.zero_add]
   simpa using hcell
  ·simp [World.frozen?,hg]
theorem OwnF.sortedK (h:OwnF G ty B w (.slice (some ⟨g,0,none⟩) l.length cap) l){d:Array α}(hd:d.size=l.length)(m:Nat)(os:Array Obj):
 OwnF G ty B (sortWorldK G.e G.sz w g 0 m d os) (.slice (some ⟨g,0,none⟩) l.length cap) d.toList∧Ext (λk=>k=g) w (sortWorldK G.e G.sz w g 0 m d os):=by
 obtain ⟨h0,hm⟩:=h;have hsize:(sortWorldK G.e G.sz w g 0 m d os).heap.size=w.heap.size+os.size:=by
  show (w.heap.modify g _++os).size=_;rw[Array.size_append,Array.size_modify]
 rcases h0.2 with ⟨h1,_⟩|⟨g',cap',cur,h1,hb,hg,hn,hc,hsz,ht⟩
 ·cases h1
 ·have e1:g=g':=by cases h1;rfl
  have e2:cap=cap':=by cases h1;rfl
  subst e1;subst e2;have hlt:g<w.heap.size:=lt_of_some hg
  constructor
  ·have hd2:d.toList.length=l.length:=by simpa using hd
   refine ⟨⟨by rw[G.length],.inr ⟨g,cap,putCells id 0 (flatK G.e G.sz d) cur,by rw[hd2],hb,?_,by rw[hd2];exact hn,hc,?_,?_⟩⟩,by rw[hd2];exact hm⟩
   ·show (w.heap.modify g _++os)[g]? =_
    rw[Array.getElem?_append_left (by rw[Array.size_modify];exact hlt),Array.getElem?_modify,if_pos rfl,hg]
    rfl
   ·unfold putCells
    rw[Array.size_mapIdx];exact hsz
   ·rw [hd2]
    have e3:d.toList.flatMap G.e=(flatK G.e G.sz d).toList:=by
     have:=flatK_list G d.toList;rw[Array.toArray_toList] at this;exact this.symm
    rw[e3];have hfs:(flatK G.e G.sz d).size=l.length*G.sz:=by rw[size_flatK,hd]
    apply List.ext_getElem?
    intro j;unfold putCells
    by_cases hj:j<l.length*G.sz
    ·have hjc:j<cur.size:=by
      have:=Nat.mul_le_mul_right G.sz hn
      omega
     have hjf:j<(flatK G.e G.sz d).size:=by omega
     rw[List.getElem?_take,if_pos hj,Array.getElem?_toList,Array.getElem?_mapIdx,Array.getElem?_eq_getElem hjc];simp only[Option.map_some,Nat.zero_le,true_and,Nat.zero_add,if_pos hjf,Nat.sub_zero,Array.getElem?_toList,Array.getElem?_eq_getElem hjf];rw[getElem!_pos _ j hjf]
     rfl
    ·rw [List.getElem?_take,if_neg hj,List.getElem?_eq_none (by rw[Array.length_toList];omega)]
  ·refine ⟨rfl,rfl,rfl,by rw[hsize];omega,λk hk hn=>?_⟩
   show (w.heap.modify g _++os)[k]? =_;rw[Array.getElem?_append_left (by rw[Array.size_modify];exact hk),Array.getElem?_modify,if_neg (λh=>hn h.symm)]
end
end Go.Pn
end
section
namespace Go.Pn
open Go.RowKit
def ItS (w:World)(b:Nat)(s:List UInt8)(k:Nat):Prop:=w.heap[b]? =some (.stringIter ⟨s.toArray⟩ k)∧k<=s.length
section
variable {w w':World}{b k:Nat}{s:List UInt8}{M:Nat->Prop}
theorem ItS.lt (h:ItS w b s k):b<w.heap.size:=(Array.getElem?_eq_some_iff.1 h.1).1
theorem ItS.kM (h:ItS w b s k)(e:Ext M w w')(hM:¬M b):ItS w' b s k:=⟨(e.block b h.lt hM).trans h.1,h.2⟩
theorem ItS.kO (h:ItS w b s k)(e:Ext M w w')(hM:¬M b:=by intro h;(try dsimp only at h);omega):ItS w' b s k:=h.kM e hM
end
section
variable
 {x:Operand}{t tr ty:TypeId}{pos:String}{after:Array Edge}{d b k:Nat}{s:List UInt8}
end
end Go.Pn
end
section
namespace Go.Pn
open Go.RowKit
theorem pairE {i:Nat}{a b:Value}{l m:List (Nat×Value)}(h:a=b)(h2:l=m):((i,a)::l)=(i,b)::m:=by rw[h,h2]
end Go.Pn
end
section
namespace Go.Pn
open Go.RowKit
theorem OwnF.ne_own {α:Type}{G:Flat α}{ty ty':TypeId}{B b:Nat}{w:World}{v:Value}{xs:List α}{cs:List Value}(h:OwnF G ty B w v xs)(o:Own w b ty' cs)(hne:ty≠ty'):∀j,bk v j->j≠b:=by
 rintro j hj rfl;obtain ⟨fr,ho,_⟩:=o;rcases h.1.2 with ⟨rfl,_⟩|⟨g,cap,cur,rfl,_,hg,_⟩
 ·exact hj
 ·have e:j=g:=hj
  subst e;have:=hg.symm.trans ho;injection this with h1;injection h1 with _ h2 _;exact hne h2
section
variable
 {d:Nat}{x y:Operand}{t t' ty:TypeId}{pos:String}{after:Array Edge}
end
end Go.Pn
end
section
namespace Go.Pn
theorem EntL.sub {w:World}{F:Nat->Prop}{raw:List EntR}{l:List EntT}(h:EntL w F raw l)(i j:Nat):EntL w F ((raw.take j).drop i) ((l.take j).drop i):=by
 refine ⟨by rw[List.length_drop,List.length_drop,List.length_take,List.length_take,h.1],λk h1 h2=>?_⟩;rw[List.getElem_drop,List.getElem_drop,List.getElem_take,List.getElem_take];exact h.2 _ _ _
theorem EntL.drop {w:World}{F:Nat->Prop}{raw:List EntR}{l:List EntT}(h:EntL w F raw l)(i:Nat):EntL w F (raw.drop i) (l.drop i):=by
 refine ⟨by rw[List.length_drop,List.length_drop,h.1],λk h1 h2=>?_⟩;rw[List.getElem_drop,List.getElem_drop];exact h.2 _ _ _
def SlsL {α:Type}(E:Enc α)(w:World)(F:Nat->Prop)(ro:List Raw)(xs:List (List α)):Prop:=ro.length=xs.length∧∀i,∀h:i<ro.length,∀h':i<xs.length,Sl E w F (slv ro[i]) xs[i]
section
variable {α:Type}{E:Enc α}{w w':World}{F F' M:Nat->Prop}{ro:List Raw}{xs:List (List α)}{v:Value}
theorem SlsL.kM (h:SlsL E w F ro xs)(e:Ext M w w')(hM:∀k,F k->¬M k):SlsL E w' F ro xs:=⟨h.1,λi h1 h2=>(h.2 i h1 h2).kM e hM⟩
theorem SlsL.keepA (h:SlsL E w F ro xs)(e:Ext M w w')(hM:∀k,F k->¬M k:=by intro k hk h;first|(have q:=hF k hk;(try dsimp only at h);omega)|(have q:=hF2 k hk;(try dsimp only at h);omega)|(have q:=hFb k hk;(try dsimp only at h);omega)|((try dsimp only at hk);(try dsimp only at h);omega)):SlsL E w' F ro xs:=SlsL.kM h e hM
theorem SlsL.weak (h:SlsL E w F ro xs)(hF:∀k,F k->F' k):SlsL E w F' ro xs:=⟨h.1,λi h1 h2=>(h.2 i h1 h2).weak hF⟩
theorem SlsL.weakA (h:SlsL E w F ro xs)(hF:∀k,F k->F' k:=by intro q hq;(try dsimp only at hq);(try dsimp only);omega):SlsL E w F' ro xs:=SlsL.weak h hF
end
end Go.Pn
end
section
namespace Go.Pn
open Go.RowKit
def leafF:Flat (List UInt8×BitVec 64):=⟨2,λx=>[str x.1,.int .u64 (x.2.toNat:Int)],λ_=>rfl,by simp[Value.oneCell',str],by decide⟩
def u6 (x:BitVec 64):Value:=.int .u64 (x.toNat:Int)
def dgC (v:Value)(bs:List (BitVec 64))(r:BitVec 64):List Value:=v::(bs.map u6++[u6 r])
section
variable {v:Value}{bs:List (BitVec 64)}{r:BitVec 64}
theorem dgC_len:(dgC v bs r).length=bs.length+2:=by simp[dgC]
theorem dgC_ones (h:v.oneCell'=true):∀u∈dgC v bs r,u.oneCell'=true:=by
 intro u hu;unfold dgC at hu;rcases List.mem_cons.1 hu with rfl|hu
 ·exact h
 ·rcases List.mem_append.1 hu with hu|hu
  ·obtain ⟨x,_,rfl⟩:=List.mem_map.1 hu
   rfl
  ·obtain rfl:=List.mem_singleton.1 hu
   rfl
theorem dgC_arr (h:bs.length=16):((dgC v bs r).drop 1).take 16=bs.map u6:=by
 unfold dgC;rw[List.drop_succ_cons,List.drop_zero];exact List.take_left' (by rw[List.length_map];exact h)
theorem dgC_at {i:Nat}(hi:i<bs.length):(dgC v bs r)[1+i]? =some (u6 bs[i]):=by
 unfold dgC;rw[Nat.add_comm,List.getElem?_cons_succ,List.getElem?_append_left (by rw[List.length_map];exact hi)]
 simp[hi]
theorem dgC_rt (h:bs.length=16):(dgC v bs r)[17]? =some (u6 r):=by
 unfold dgC;rw[List.getElem?_cons_succ,List.getElem?_append_right (by rw[List.length_map];omega),List.length_map,h]
 rfl
theorem dgC_set {i:Nat}(hi:i<bs.length)(x:BitVec 64):(dgC v bs r).set (1+i) (u6 x)=dgC v (bs.set i x) r:=by
 unfold dgC;rw[Nat.add_comm,List.set_cons_succ,List.set_append_left _ _ (by rw[List.length_map];exact hi),List.map_set]
theorem dgC_setr (h:bs.length=16)(x:BitVec 64):(dgC v bs r).set 17 (u6 x)=dgC v bs x:=by
 unfold dgC;rw[List.set_cons_succ,List.set_append_right _ _ (by rw[List.length_map];omega),List.length_map,h]
 rfl
theorem map_u6_at {l:List (BitVec 64)}{i:Nat}(h:i<l.length):(l.map u6)[i]? =some (u6 l[i]):=by simp[h]
theorem Own.slA {w:World}{b:Nat}{ty:TypeId}(h:Own w b ty (dgC v bs r)):Sl u64F.enc w (λk=>k=b) (.slice (some ⟨b,1,none⟩) bs.length bs.length) bs∨maxLen<bs.length:=by
 by_cases hm:bs.length<=maxLen
 ·left
  obtain ⟨fr,hb,_⟩:=h;refine ⟨hm,.inr ⟨b,1,bs.length,_,ty,fr,rfl,rfl,hb,Nat.le_refl _,hm,?_,λi hi=>?_⟩⟩
  ·intro _
   show 1+bs.length*1<=_;rw[List.size_toArray,dgC_len]
   omega
  ·show ((dgC v bs r).drop (1+i*1)).take 1=[u6 bs[i]]
   have h1:=dgC_at (v:=v) (r:=r) hi;obtain ⟨h2,h3⟩:=List.getElem?_eq_some_iff.1 h1;rw[Nat.mul_one,List.drop_eq_getElem_cons h2,List.take_succ_cons,List.take_zero,h3]
 ·right;omega
end
section
variable
 {d:Nat}{x y:Operand}{t t' tr e:TypeId}{pos:String}{after:Array Edge}
theorem run_eqItems_u64 (he:P.underlying e=some (.int .u64))(hag:∀w,(isAgg e).run P w=.ok false w)(a b:List (BitVec 64))(w:World):∀is:List Nat,(∀i∈is,i<a.length∧i<b.length)->
 (Op.eqItems 9999 e 1 (a.map u6).toArray (b.map u6).toArray is).run P w=.ok (decide (∀i∈is,a[i]? =b[i]?)) w
 |[],_=>by simp[Op.eqItems]
 |i::is,h=>by
  have hi:=h i (by simp);have e0:∀xs:List (BitVec 64),(hx:i<xs.length)->(part e (xs.map u6).toArray (i*1)).run P w=.ok (u6 xs[i]) w:=by
   intro xs hx
   simp[part,hag,hx,u6]
  have e1:(Op.equalIn 9999 e (u6 a[i]) (u6 b[i])).run P w=.ok (decide (a[i]=b[i])) w:=by
   have:=run_equalIn_int (P:=P) w 9998 e .u64 .u64 (a[i].toNat:Int) (b[i].toNat:Int) he;refine this.trans ?_
   congr 1
   by_cases q:a[i]=b[i]
   ·simp [q]
   ·have q2:¬((a[i].toNat:Int)=(b[i].toNat:Int)):=λh=>q (BitVec.eq_of_toNat_eq (by omega))
    simp[q,q2]
  simp only[Op.eqItems,Sem.run_bind,e0 a hi.1,e0 b hi.2,Result.andThen_ok,e1];have ih:=run_eqItems_u64 he hag a b w is (λj hj=>h j (List.mem_cons_of_mem _ hj))
  by_cases q:a[i]=b[i]
  ·have q3:(∀j∈i::is,a[j]? =b[j]?)↔∀j∈is,a[j]? =b[j]? :=by
    constructor
    ·exact λh j hj=>h j (List.mem_cons_of_mem _ hj)
    ·intro h j hj
     rcases List.mem_cons.1 hj with rfl|hj
     ·rw [List.getElem?_eq_getElem hi.1,List.getElem?_eq_getElem hi.2,q]
     ·exact h j hj
   simp only[q,decide_true,Bool.not_true,Bool.false_eq_true,if_false];rw[ih]
   congr 1
   exact decide_eq_decide.2 q3.symm
  ·have q3:¬∀j∈i::is,a[j]? =b[j]? :=by
    intro h;have:=h i (by simp);rw[List.getElem?_eq_getElem hi.1,List.getElem?_eq_getElem hi.2] at this;exact q (Option.some.inj this)
   rw[decide_eq_false q,decide_eq_false q3]
   rfl
theorem run_eq_arr {len:Nat}{ti:TypeInfo}(ht:P.underlying t=some (.array len e))(he:P.underlying e=some (.int .u64))(hi:P.info? e=some ti)(hc:P.cellsOf e=1)(hag:∀w,(isAgg e).run P w=.ok false w)(a b:List (BitVec 64))(ha:a.length=len)(hb:b.length=len):
 (Op.equalIn 10000 t (.agg (a.map u6).toArray) (.agg (b.map u6).toArray)).run P w=.ok (decide (a=b)) w:=by
 rw[Go.run_equalIn_array w 9999 _ _ ht hi,hc,run_eqItems_u64 he hag a b w (List.range len) (λi h=>by have:=List.mem_range.1 h;omega)]
 congr 1
 refine decide_eq_decide.2 ⟨λh=>List.ext_getElem? λi=>?_,λh=>by subst h;simp⟩
 by_cases q:i<len
 ·exact h i (List.mem_range.2 q)
 ·rw [List.getElem?_eq_none (by omega),List.getElem?_eq_none (by omega)]
theorem O.eqlAr {len:Nat}{ti:TypeInfo}{a b:List (BitVec 64)}(ht:P.underlying t=some (.array len e))(he:P.underlying e=some (.int .u64))(hi:P.info? e=some ti)(hc:P.cellsOf e=1)(hag:∀w,(isAgg e).run P w=.ok false w)(hm:P.eqGuardType P.depth t=false)
 (hx:ev n f x=.agg (a.map u6).toArray)(hy:ev n f y=.agg (b.map u6).toArray)(ha:a.length=len)(hb:b.length=len)(h:O P n ops rest N Z (upd f d (.bool (decide (a=b)))) w):
 O P n ops (ZO d (.binOp .eql t x y t') tr pos after::rest) N Z f w:=
 O.val rfl rfl (run_bin hx hy (run_eqGuard_agg w _ _ _ _ _ _ hm) (by rw[run_eql_struct,run_eq_arr ht he hi hc hag a b ha hb];rfl) _ _) h
end
section
variable
 {d:Nat}{x y:Operand}{t t' tr:TypeId}{pos:String}{after:Array Edge}
end
structure Parts (ty ta:TypeId) (B b:Nat) (w:World) (ps:List Value) (ls:List (List (BitVec 64))):Prop where
 own:Own w b ta ps
 len:ps.length=ls.length
 each:∀i,∀h:i<ps.length,∀h':i<ls.length,OwnF u64F ty B w ps[i] ls[i]
 apart:∀i j,∀hi:i<ps.length,∀hj:j<ps.length,i≠j->∀k,bk ps[i] k->¬bk ps[j] k
 off:∀i,∀hi:i<ps.length,∀k,bk ps[i] k->k≠b
section
variable {ty ta:TypeId}{B b:Nat}{w w' w'':World}{ps:List Value}{ls:List (List (BitVec 64))}
theorem Parts.L (h:Parts ty ta B b w ps ls)(e:Le w w'):Parts ty ta B b w' ps ls:=⟨h.own.L e,h.len,λi a c=>(h.each i a c).L e,h.apart,h.off⟩
theorem Parts.kM {M:Nat->Prop}(h:Parts ty ta B b w ps ls)(e:Ext M w w')(hb:¬M b)(hM:∀i,∀hi:i<ps.length,∀k,bk ps[i] k->¬M k):Parts ty ta B b w' ps ls:=⟨h.own.kM e hb,h.len,λi a c=>(h.each i a c).kM e (hM i a),h.apart,h.off⟩
theorem Parts.kO {M:Nat->Prop}(h:Parts ty ta B b w ps ls)(e:Ext M w w')(hM:∀i,∀hi:i<ps.length,∀k,bk (ps[i]'hi) k->¬M k)(hb:¬M b:=by intro h;(try dsimp only at h);omega):Parts ty ta B b w' ps ls:=h.kM e hb hM
theorem Parts.zero {n:Nat}(h:Own w b ta (List.replicate n (.slice none 0 0))):Parts ty ta B b w (List.replicate n (.slice none 0 0)) (List.replicate n []):=by
 refine ⟨h,by simp,λi h1 h2=>?_,λi j h1 h2 _ k hk=>?_,λi h1 k hk=>?_⟩
 ·simp only[List.getElem_replicate]
  exact OwnF.nil _ _ _ _
 ·simp only[List.getElem_replicate] at hk
  exact hk.elim
 ·simp only[List.getElem_replicate] at hk
  exact hk.elim
theorem Parts.put (h:Parts ty ta B b w ps ls){i:Nat}(hi:i<ps.length){v:Value}{xs:List (BitVec 64)}(hv:OwnF u64F ty B w' v xs)(e:Ext (bk (ps[i]'hi)) w w')(hw:∀k,bk v k->bk (ps[i]'hi) k∨w.heap.size<=k)
 (ho:Own w'' b ta (ps.set i v))(e2:Ext (λk=>k=b) w' w''):Parts ty ta B b w'' (ps.set i v) (ls.set i xs):=by
 have hbl:=h.own.lt;have hold:∀j,∀hj:j<ps.length,∀k,bk ps[j] k->k<w.heap.size:=λj hj k hk=>((h.each j hj (by rw[<-h.len];exact hj)).bk_ge k hk).2
 have hvb:∀k,bk v k->k≠b:=λk hk=>by
  rcases hw k hk with q|q
  ·exact h.off i hi k q
  ·omega
 refine ⟨ho,by rw[List.length_set,List.length_set];exact h.len,λj h1 h2=>?_,λj j2 h1 h2 hne k hk hk2=>?_,λj h1 k hk=>?_⟩
 ·rw [List.length_set] at h1 h2
  rw[List.getElem_set,List.getElem_set]
  split
  ·exact hv.kM e2 hvb
  ·rename_i q
   exact ((h.each j h1 h2).kM e λk hk hk2=>h.apart j i h1 hi (λq2=>q q2.symm) k hk hk2).kM e2 (h.off j h1)
 ·rw [List.length_set] at h1 h2
  rw[List.getElem_set] at hk hk2
  split at hk<;>split at hk2
  ·omega
  ·rcases hw k hk with q|q
   ·exact h.apart i j2 hi h2 (by omega) k q hk2
   ·have:=hold j2 h2 k hk2;omega
  ·rcases hw k hk2 with q|q
   ·exact h.apart j i h1 hi (by omega) k hk q
   ·have:=hold j h1 k hk;omega
  ·exact h.apart j j2 h1 h2 hne k hk hk2
 ·rw [List.length_set] at h1
  rw[List.getElem_set] at hk
  split at hk
  ·exact hvb k hk
  ·exact h.off j h1 k hk
end
end Go.Pn
end
section
namespace Go.Pn
section
variable {P:Program}{n:Nat}{l:List Oper}{N:Val->World->Prop}{X:Nat->Val->World->Prop}{R:Val->World->Prop}{Z:List PanicEntry->World->Prop}{f:Val}{w wB:World}{M:Nat->Prop}
 {pos:String}{after:Array Edge}{ty:TypeId}{x:Operand}{d:Nat}
def DM (P:Program)(n:Nat)(l:List Oper)(listed:Array Bool)(N:Val->World->Prop)(Z:List PanicEntry->World->Prop)(M:Nat->Prop)(wB:World)(fuel:Nat)(f:Val)(w:World):Prop:=
 wpAnyH P .any l.toArray (Q0 n N Z) (λw'=>Ext M wB w') fuel listed (Fr n f) w
theorem C.drawM {id:Nat}(M:Nat->Prop)(hm:P.follows .mixedOrders=true)(h:∀w1,Le w w1->DM P n l (Array.replicate l.toArray.size false) N Z M w1 l.toArray.size f w1):C P n (.region id l.toArray true) N X R Z f w:=by
 refine wp_mono (wp_region_held (S:=λw'=>Ext M {w with drawn:=w.drawn+1} w') hm (h {w with drawn:=w.drawn+1} ⟨rfl,rfl,rfl,Nat.le_refl _,λ_ _ _=>rfl⟩)) ?_;intro e a w he;cases e with
 |normal=>exact he
 |exit i=>obtain ⟨_,_,h⟩:=he;exact h.elim
 |goto l=>exact he
 |ret=>obtain ⟨_,_,h⟩:=he;exact h.elim
 |panic ch=>exact he
 |outgrown=>exact he
theorem DM.done {listed:Array Bool}{fuel:Nat}(hr:Region.ready .any l.toArray listed=[])(h:N f w):DM P n l listed N Z M wB fuel f w:=wpAnyH_done hr ⟨f,rfl,h⟩ fuel
theorem DM.take {listed:Array Bool}{fuel i:Nat}{o:Oper}{d:Nat}{v:Value}(hi:l[i]? =some o)(hg:o.guard=.none)(hd:o.dst=some d)(hdn:Nat.ble (d+1) n=true)
 (hk:(Region.noSelect l.toArray&&Region.free .any l.toArray listed i&&(Region.ready .any l.toArray listed).contains i)=true)
 (hS:Ext M wB w)(hX:∃X:Sem Value,execOp (ev n f) o=(do pure (.value (<-X))))
 (hO:∀w',Ext M wB w'->∀N:Val->World->Prop,N (upd f d v) w'->O P n [o] [o] N (λ_ _=>False) f w')
 (h:DM P n l (listed.setIfInBounds i true) N Z M wB fuel (upd f d v) w):DM P n l listed N Z M wB (fuel+1) f w:=by
 simp only[Bool.and_eq_true] at hk;have hy:YieldsIf P l.toArray (λw'=>Ext M wB w') o v (Fr n f):=
  .inl ⟨by simp[Region.wanted,hg],λw' hw=>by rw[eval_Fr];exact run_of_O hg hd (Nat.le_of_ble_eq_true hdn) hX (hO w' hw)⟩
 refine wpAnyH_take (i:=i) (oi:=o) (v:=v) (by simpa using hi) hk.1.1 hk.1.2 hk.2 (Q0_put _ _) hy hS ?_;rw[hd,put_Fr];exact h
theorem DM.takeYes {listed:Array Bool}{fuel i:Nat}{dst:Option Nat}{op:Op}{ty:TypeId}{pos:String}{after:Array Edge}{j dj:Nat}{b:Bool}{d:Nat}{v:Value}
 (hi:l[i]? =some {dst:=dst,op:=op,type:=ty,pos:=pos,after:=after,guard:=some (j,b)})(hd:dst=some d)(hdn:Nat.ble (d+1) n=true)
 (hk:(Region.noSelect l.toArray&&Region.free .any l.toArray listed i&&(Region.ready .any l.toArray listed).contains i)=true)
 (hj:(l[j]?).bind (·.dst)=some dj)(hv:ev n f (.tmp dj)=.bool b)
 (hS:Ext M wB w)(hX:∃X:Sem Value,execOp (ev n f) {dst:=dst,op:=op,type:=ty,pos:=pos,after:=after,guard:=.none}=(do pure (.value (<-X))))
 (hO:∀w',Ext M wB w'->∀N:Val->World->Prop,N (upd f d v) w'->O P n [{dst:=dst,op:=op,type:=ty,pos:=pos,after:=after,guard:=.none}] [{dst:=dst,op:=op,type:=ty,pos:=pos,after:=after,guard:=.none}] N (λ_ _=>False) f w')
 (h:DM P n l (listed.setIfInBounds i true) N Z M wB fuel (upd f d v) w):DM P n l listed N Z M wB (fuel+1) f w:=by
 simp only[Bool.and_eq_true] at hk;have hy0:yielded l.toArray (Fr n f).tmps j=some b:=by
  have hd:=getD_Fr n f dj;rw[hv] at hd;unfold yielded;have h1:(l.toArray[j]?).bind (·.dst)=some dj:=by simpa using hj
  rw[h1];simp only[Option.bind_some];rw[Array.getD_eq_getD_getElem?] at hd;cases hx:(Fr n f).tmps[dj]? with
  |none=>rw[hx] at hd;simp[undef] at hd
  |some v=>rw[hx] at hd;simp at hd;subst hd;rfl
 have hy:YieldsIf P l.toArray (λw'=>Ext M wB w') {dst:=dst,op:=op,type:=ty,pos:=pos,after:=after,guard:=some (j,b)} v (Fr n f):=
  .inl ⟨by simp[Region.wanted,hy0],λw' hw=>by rw[eval_Fr];exact run_of_O (o:={dst:=dst,op:=op,type:=ty,pos:=pos,after:=after,guard:=.none}) rfl hd (Nat.le_of_ble_eq_true hdn) hX (hO w' hw)⟩
 refine wpAnyH_take (i:=i) (v:=v) (by simpa using hi) hk.1.1 hk.1.2 hk.2 (Q0_put _ _) hy hS ?_;simp only[hd];rw[put_Fr];exact h
theorem DM.step {listed:Array Bool}{fuel j:Nat}{o:Oper}(hi:l[j]? =some o)(hg:o.guard=.none)
 (hO:O P n [o] [o] (λf' w'=>Ext M wB w'∧DM P n l (listed.setIfInBounds j true) N Z M wB fuel f' w') Z f w):
 wpOp P l.toArray (Q0 n N Z) j (λa' w'=>Ext M wB w'∧wpAnyH P .any l.toArray (Q0 n N Z) (λw'=>Ext M wB w') fuel (listed.setIfInBounds j true) a' w') (Fr n f) w:=by
 unfold wpOp;have hi2:l.toArray[j]? =some o:=by simpa using hi
 rw[hi2];unfold O at hO;simp only[wpList,Region.wanted,hg,if_true] at hO ⊢;have key:∀a' w',Q0 n (λf' w'=>Ext M wB w'∧DM P n l (listed.setIfInBounds j true) N Z M wB fuel f' w') Z .normal a' w'->Ext M wB w'∧wpAnyH P .any l.toArray (Q0 n N Z) (λw'=>Ext M wB w') fuel (listed.setIfInBounds j true) a' w':=by
  rintro a' w' ⟨f',rfl,h1,h2⟩;exact ⟨h1,h2⟩
 rcases hO with h|⟨_,a0,w0,h0⟩
 ·left
  unfold Oper.wp at h ⊢
  generalize (execOp (Fr n f).eval o).run P w=r at h ⊢
  cases r with
  |ok nx w'=>
   cases nx with
   |value v=>exact key _ _ h
   |skip=>exact key _ _ h
   |defer d=>exact key _ _ h
   |enter k args=>
    refine Calls.mono h ?_;intro e w'' he;cases e with
    |returned v=>exact key _ _ he
    |panicked ch=>exact he
    |outgrown=>obtain ⟨a0,w0,h0⟩:=he;exact h0.elim
   |row r args=>exact Rows.mono h λv w'' hv=>key _ _ hv
   |_=>exact h.elim
  |halt hh w'=>cases hh<;>first|exact h|exact h.elim
 ·exact h0.elim
theorem DM.one {listed:Array Bool}{fuel i:Nat}{o:Oper}(hi:l[i]? =some o)(hg:o.guard=.none)(hr:Region.ready .any l.toArray listed=[i])
 (hO:O P n [o] [o] (λf' w'=>Ext M wB w'∧DM P n l (listed.setIfInBounds i true) N Z M wB fuel f' w') Z f w):DM P n l listed N Z M wB (fuel+1) f w:=by
 refine wpAnyH_all hr (by simp) ?_;intro j hj;obtain rfl:j=i:=by simpa using hj
 exact DM.step hi hg hO
def DMStep (P:Program)(n:Nat)(l:List Oper)(listed:Array Bool)(N:Val->World->Prop)(Z:List PanicEntry->World->Prop)(M:Nat->Prop)(wB:World)(fuel:Nat)(f:Val)(w:World)(j:Nat):Prop:=
 wpOp P l.toArray (Q0 n N Z) j (λa' w'=>Ext M wB w'∧wpAnyH P .any l.toArray (Q0 n N Z) (λw'=>Ext M wB w') fuel (listed.setIfInBounds j true) a' w') (Fr n f) w
theorem DM.many {listed:Array Bool}{fuel:Nat}(is:List Nat)(hr:Region.ready .any l.toArray listed=is)(hne:is≠[])(h:allP (DMStep P n l listed N Z M wB fuel f w) is):DM P n l listed N Z M wB (fuel+1) f w:=by
 subst hr;exact wpAnyH_all rfl hne (allP_mem h)
theorem DM.stepU {listed:Array Bool}{fuel j:Nat}{o:Oper}(hi:l[j]? =some o)(hg:o.guard=.none)
 (hO:O P n [o] [o] (λf' w'=>Ext M wB w'∧DM P n l (listed.setIfInBounds j true) N Z M wB fuel f' w') Z f w):DMStep P n l listed N Z M wB fuel f w j:=DM.step hi hg hO
theorem DM.takeNo {listed:Array Bool}{fuel i:Nat}{dst:Option Nat}{op:Op}{j dj:Nat}{b:Bool}{d:Nat}
 (hi:l[i]? =some {dst:=dst,op:=op,type:=ty,pos:=pos,after:=after,guard:=some (j,b)})(hd:dst=some d)
 (hk:(Region.noSelect l.toArray&&Region.free .any l.toArray listed i&&(Region.ready .any l.toArray listed).contains i)=true)
 (hS:Ext M wB w)(hj:(l[j]?).bind (·.dst)=some dj)(hv:isB b (ev n f (.tmp dj))=false)
 (h:DM P n l (listed.setIfInBounds i true) N Z M wB fuel (upd f d undef) w):DM P n l listed N Z M wB (fuel+1) f w:=by
 simp only[Bool.and_eq_true] at hk;have hy0:(yielded l.toArray (Fr n f).tmps j==some b)=false:=by
  have hd:=getD_Fr n f dj;unfold yielded;have h1:(l.toArray[j]?).bind (·.dst)=some dj:=by simpa using hj
  rw[h1];simp only[Option.bind_some];rw[Array.getD_eq_getD_getElem?] at hd;cases hx:(Fr n f).tmps[dj]? with
  |none=>rfl
  |some v=>
   rw[hx] at hd;simp only[Option.getD_some] at hd;rw[<-hd] at hv;cases v<;>first|rfl|(simp only[isB] at hv;simpa using hv)
 have hy:YieldsIf P l.toArray (λw'=>Ext M wB w') {dst:=dst,op:=op,type:=ty,pos:=pos,after:=after,guard:=some (j,b)} undef (Fr n f):=
  .inr ⟨by simp only[Region.wanted];exact hy0,rfl⟩
 refine wpAnyH_take (i:=i) (v:=undef) (by simpa using hi) hk.1.1 hk.1.2 hk.2 (Q0_put _ _) hy hS ?_;simp only[hd];rw[put_Fr];exact h
theorem DM.splitD {listed:Array Bool}{fuel:Nat}{p:Prop}[Decidable p](_hx:ev n f x=.bool (decide p))(h1:p->DM P n l listed N Z M wB fuel f w)(h2:¬p->DM P n l listed N Z M wB fuel f w):DM P n l listed N Z M wB fuel f w:=by
 by_cases h:p
 ·exact h1 h
 ·exact h2 h
theorem DM.cast {listed:Array Bool}{fuel:Nat}{v v':Value}(hv:v=v')(h:DM P n l listed N Z M wB fuel (upd f d v') w):DM P n l listed N Z M wB fuel (upd f d v) w:=hv ▸ h
end
end Go.Pn
end
section
namespace Go.Pn.Dg
open Go Go.Pn
def diffP (a b:Dig)(k:Nat):List Int:=((List.range k).filter λi=>decide (a.bs[i]? ≠b.bs[i]?)).map λi:Nat=>(i:Int)
theorem diffP_yes {a b:Dig}{k:Nat}(ha:k<a.bs.length)(hb:k<b.bs.length)(h:a.bs[k]≠b.bs[k]):diffP a b (k+1)=diffP a b k++[(k:Int)]:=by
 unfold diffP;rw[List.range_succ,List.filter_append,List.map_append]
 simp[ha,hb,h]
theorem diffP_no {a b:Dig}{k:Nat}(ha:k<a.bs.length)(hb:k<b.bs.length)(h:a.bs[k]=b.bs[k]):diffP a b (k+1)=diffP a b k:=by
 unfold diffP;rw[List.range_succ,List.filter_append,List.map_append]
 simp[ha,hb,h]
theorem diffP_len (a b:Dig)(k:Nat):(diffP a b k).length<=k:=by
 unfold diffP;rw[List.length_map];have h:=List.length_filter_le (λi=>decide (a.bs[i]? ≠b.bs[i]?)) (List.range k);rw[List.length_range] at h;exact h
def err (a b:Dig):Int:=if valid a=true∧valid b=true then 0 else 2
def differ (a b:Dig):List Int:=if valid a=true∧valid b=true then diffP a b 16 else []
theorem err_yes {a b:Dig}(h1:valid a=true)(h2:valid b=true):err a b=0:=if_pos ⟨h1,h2⟩
theorem err_no1 {a b:Dig}(h:valid a=false):err a b=2:=if_neg (λq=>by rw[h] at q;cases q.1)
theorem err_no2 {a b:Dig}(h:valid b=false):err a b=2:=if_neg (λq=>by rw[h] at q;cases q.2)
theorem differ_yes {a b:Dig}(h1:valid a=true)(h2:valid b=true):differ a b=diffP a b 16:=if_pos ⟨h1,h2⟩
theorem differ_no1 {a b:Dig}(h:valid a=false):differ a b=[]:=if_neg (λq=>by rw[h] at q;cases q.1)
theorem differ_no2 {a b:Dig}(h:valid b=false):differ a b=[]:=if_neg (λq=>by rw[h] at q;cases q.2)
end Go.Pn.Dg
end
section
namespace Go.Pn.Dg
open Go Go.Pn
def keysM:List Leaf->List Leaf->List Str
 |[],m=>m.map (·.1)
 |x::l,[]=>(x::l).map (·.1)
 |x::l,y::m=>if Op.bytesLess x.1 y.1=true then x.1::keysM l (y::m) else if Op.bytesLess y.1 x.1=true then y.1::keysM (x::l) m else (if x.2=y.2 then [] else [x.1])++keysM l m
termination_by a b=>a.length+b.length
theorem keysM_nn:keysM [] []=[]:=by rw[keysM];rfl
theorem keysM_n (y:Leaf)(m:List Leaf):keysM [] (y::m)=[y.1]++keysM [] m:=by
 rw[keysM];cases m with
 |nil=>rw[keysM];rfl
 |cons z m=>rw[keysM];rfl
theorem keysM_0 (x:Leaf)(l:List Leaf):keysM (x::l) []=[x.1]++keysM l []:=by
 rw[keysM];cases l with
 |nil=>rw[keysM];rfl
 |cons z l=>rw[keysM];rfl
theorem keysM_a {x y:Leaf}{l m:List Leaf}(h:Op.bytesLess x.1 y.1=true):keysM (x::l) (y::m)=[x.1]++keysM l (y::m):=by
 rw[keysM,if_pos h];rfl
theorem keysM_b {x y:Leaf}{l m:List Leaf}(h:Op.bytesLess x.1 y.1=false)(h2:Op.bytesLess y.1 x.1=true):keysM (x::l) (y::m)=[y.1]++keysM (x::l) m:=by
 rw[keysM,if_neg (by rw[h];decide),if_pos h2];rfl
theorem keysM_c {x y:Leaf}{l m:List Leaf}(h:Op.bytesLess x.1 y.1=false)(h2:Op.bytesLess y.1 x.1=false)(h3:x.2≠y.2):keysM (x::l) (y::m)=[x.1]++keysM l m:=by
 rw[keysM,if_neg (by rw[h];decide),if_neg (by rw[h2];decide),if_neg h3]
theorem keysM_d {x y:Leaf}{l m:List Leaf}(h:Op.bytesLess x.1 y.1=false)(h2:Op.bytesLess y.1 x.1=false)(h3:x.2=y.2):keysM (x::l) (y::m)=[]++keysM l m:=by
 rw[keysM,if_neg (by rw[h];decide),if_neg (by rw[h2];decide),if_pos h3]
def keys (a b:Dig):List Str:=if valid a=true∧valid b=true then keysM a.ls b.ls else []
theorem keys_yes {a b:Dig}(h1:valid a=true)(h2:valid b=true):keys a b=keysM a.ls b.ls:=if_pos ⟨h1,h2⟩
theorem keys_no1 {a b:Dig}(h:valid a=false):keys a b=[]:=if_neg (λq=>by rw[h] at q;cases q.1)
theorem keys_no2 {a b:Dig}(h:valid b=false):keys a b=[]:=if_neg (λq=>by rw[h] at q;cases q.2)
end Go.Pn.Dg
end
section
namespace Go.Pn
section
variable
 {d:Nat}{x y:Operand}{t t' tr:TypeId}{pos:String}{after:Array Edge}
theorem O.eqlM {a b:MarkT}(hq:∀a b:MarkT,∀{w:World},(Op.equal t (Go.Pn.mv a) (Go.Pn.mv b)).run P w=.ok (decide (a=b)) w)(hm:P.eqGuardType P.depth t=false)
 (hx:ev n f x=Go.Pn.mv a)(hy:ev n f y=Go.Pn.mv b)(h:O P n ops rest N Z (upd f d (.bool (decide (a=b)))) w):
 O P n ops (ZO d (.binOp .eql t x y t') tr pos after::rest) N Z f w:=
 O.val rfl rfl (run_bin hx hy (run_eqGuard_agg w _ _ _ _ _ _ hm) (by
  have h2:binOp .eql t (Go.Pn.mv a) (Go.Pn.mv b)=(do pure (.bool ((<-Op.equal t (Go.Pn.mv a) (Go.Pn.mv b))))):=rfl;show (binOp .eql t (Go.Pn.mv a) (Go.Pn.mv b)).run P w=_;rw[h2,Sem.run_bind,hq]
  simp[Result.andThen]) _ _) h
end
end Go.Pn
end
section
namespace Go.Pn.Jn
open Go Go.Pn Go.Pn.Cn
def orL:List Int->Int
 |[]=>0
 |a::l=>if a≠0 then a else orL l
theorem orL_skip:∀{l:List Int} {k:Nat},(∀i,∀h:i<l.length,i<k->l[i]=0)->orL (l.drop k)=orL l
 |_,0,_=>by rw[List.drop_zero]
 |[],k+1,_=>by rw[List.drop_nil]
 |a::l,k+1,h=>by
  have h0:a=0:=h 0 (by simp) (Nat.succ_pos k);rw[List.drop_succ_cons,orL_skip λi hi hk=>h (i+1) (by simpa using hi) (by omega)];rw[h0]
  rfl
theorem orL_at {l:List Int}{k:Nat}(hk:k<l.length)(h:∀i,∀h:i<l.length,i<k->l[i]=0)(hn:l[k]≠0):l[k]=orL l:=by
 rw[<-orL_skip h,List.drop_eq_getElem_cons hk,orL,if_pos hn]
theorem orL_end {l:List Int}{k:Nat}(hk:l.length<=k)(h:∀i,∀h:i<l.length,i<k->l[i]=0):0=orL l:=by
 rw[<-orL_skip h,List.drop_eq_nil_of_le hk]
 rfl
def ucmp (a b:BitVec 64):Int:=if a<b then-1 else if b<a then 1 else 0
def scmp (a b:Name):Int:=if BL a b then-1 else if BL b a then 1 else 0
theorem scmp_lt (a b:Name):scmp a b<0↔BL a b:=by
 unfold scmp
 split
 ·rename_i h
  exact ⟨λ_=>h,λ_=>by decide⟩
 ·split
  ·rename_i h1 h2
   exact ⟨λh=>absurd h (by decide),λh=>absurd h h1⟩
  ·rename_i h1 h2
   exact ⟨λh=>absurd h (by decide),λh=>absurd h h1⟩
theorem scmp_zero (a b:Name):scmp a b=0↔a=b:=by
 unfold scmp
 split
 ·rename_i h
  exact ⟨λq=>absurd q (by decide),λq=>absurd (q ▸ h) (bl_irrefl _)⟩
 ·split
  ·rename_i h1 h2
   exact ⟨λq=>absurd q (by decide),λq=>absurd (q ▸ h2) (bl_irrefl _)⟩
  ·rename_i h1 h2
   refine ⟨λ_=>?_,λ_=>rfl⟩;rcases bl_total a b with q|q|q
   ·exact absurd q h1
   ·exact q
   ·exact absurd q h2
theorem scmp_one {a b:Name}(h:Op.bytesLess a b=true):(-1:Int)=scmp a b:=(if_pos (show BL a b from h)).symm
theorem scmp_two {a b:Name}(h:Op.bytesLess a b=false)(k:(!(Op.bytesLess a b||a==b))=true):(1:Int)=scmp a b:=by
 have h1:¬BL a b:=λq=>by unfold BL at q;rw[h] at q;cases q
 have h2:¬a=b:=λq=>by rw[h,q] at k;simp at k
 unfold scmp;rw[if_neg h1];rcases bl_total a b with q|q|q
 ·exact absurd q h1
 ·exact absurd q h2
 ·rw [if_pos q]
theorem scmp_three {a b:Name}(h:Op.bytesLess a b=false)(k:(!(Op.bytesLess a b||a==b))=false):(0:Int)=scmp a b:=by
 have h2:a=b:=by rw[h] at k;simpa using k
 exact ((scmp_zero a b).2 h2).symm
theorem mcmp_or (a b:Mark):mcmp a b=orL [ucmp a.2.2 b.2.2,Dt.icmp a.1.1 b.1.1,Dt.icmp a.1.2 b.1.2,Dt.icmp a.2.1 b.2.1]:=by
 unfold mcmp ucmp Dt.icmp ML;simp only[BitVec.lt_def,orL]
 repeat' split
 all_goals omega
theorem mcmp_self (a:Mark):mcmp a a=0:=by
 unfold mcmp;rw[if_neg (ml_irrefl a),if_neg (ml_irrefl a)]
theorem filter_take2 {α:Type}(p:α->Bool){l:List α}{k:Nat}(hk:k<l.length):(l.take (k+1)).filter p=(l.take k).filter p++(if p l[k] then [l[k]] else []):=by
 rw[List.take_succ_eq_append_getElem hk,List.filter_append]
 congr 1
 rw[List.filter_cons];cases p l[k]<;>rfl
theorem find_idx {α:Type}{p:α->Bool}:∀{l:List α},(Cn.idx p l<0->l.find? p=none)∧∀k:Nat,Cn.idx p l=(k:Int)->∃h:k<l.length,l.find? p=some l[k]:=by
 intro l
 constructor
 ·intro h
  refine List.find?_eq_none.2 λx hx hp=>?_
  have h1:=Cn.idx_any (p:=p) l;rw[dF (by omega)] at h1;rw[Cn.any_yes (k:=(List.getElem_of_mem hx).choose) (List.getElem_of_mem hx).choose_spec.choose (by rw[(List.getElem_of_mem hx).choose_spec.choose_spec];exact hp)] at h1;cases h1
 ·intro k h
  obtain ⟨⟨hk,h1⟩,h2⟩:=Cn.idx_at h;refine ⟨hk,List.find?_eq_some_iff_getElem.2 ⟨h1,k,hk,rfl,λj hj=>?_⟩⟩;rw[h2 j (by omega) hj]
  rfl
def sameD (m:Mark)(y:Mark):Bool:=decide (y.1=m.1)
def nameIs {β:Type}(s:Name)(r:Name×β):Bool:=decide (r.1=s)
theorem keeps_no {o:List Mark}{x:Ctx}{m:Mark}(h:Cn.idx (sameD m) o<0):keeps o x m= !ctxHas x m.1:=by
 unfold keeps;rw[show o.find? (λy=>decide (y.1=m.1))=none from find_idx.1 h]
theorem keeps_yes {o:List Mark}{x:Ctx}{m:Mark}{k:Nat}(h:Cn.idx (sameD m) o=(k:Int)):∃hk:k<o.length,keeps o x m=decide (mcmp m o[k]≥0):=by
 obtain ⟨hk,h1⟩:=find_idx.2 k h;refine ⟨hk,?_⟩;unfold keeps;rw[show o.find? (λy=>decide (y.1=m.1))=some o[k] from h1];show (!decide (ML m o[k]))=_;rw[<-decide_not];exact decide_eq_decide.2 (mcmp_ge m o[k]).symm
theorem keeps_yes2 {o:List Mark}{x:Ctx}{m:Mark}(h:¬Cn.idx (sameD m) o<0):∃hk:(Cn.idx (sameD m) o).toNat<o.length,keeps o x m=decide (mcmp m o[(Cn.idx (sameD m) o).toNat]≥0):=
 keeps_yes (k:=(Cn.idx (sameD m) o).toNat) (by omega)
theorem idx_same {α β:Type}{p:α->Bool}{q:β->Bool}:∀{l:List α} {r:List β},l.length=r.length->(∀i,∀h:i<l.length,∀h':i<r.length,p l[i]=q r[i])->Cn.idx p l=Cn.idx q r
 |[],[],_,_=>rfl
 |[],_::_,h,_=>by simp at h
 |_::_,[],h,_=>by simp at h
 |a::l,b::r,h,k=>by
  have h0:p a=q b:=k 0 (by simp) (by simp);have ih:=idx_same (p:=p) (q:=q) (l:=l) (r:=r) (by simpa using h) λi h1 h2=>k (i+1) (by simpa using h1) (by simpa using h2)
  unfold Cn.idx;rw[h0,ih]
theorem marks_no {l:List Item}{s:Name}(h:Cn.idx (nameIs s) l<0):marks l s=[]:=by
 unfold marks;rw[show l.find? (λy=>decide (y.1=s))=none from find_idx.1 h]
theorem marks_yes {l:List Item}{s:Name}{k:Nat}(h:Cn.idx (nameIs s) l=(k:Int)):∃hk:k<l.length,marks l s=l[k].2:=by
 obtain ⟨hk,h1⟩:=find_idx.2 k h;exact ⟨hk,by unfold marks;rw[show l.find? (λy=>decide (y.1=s))=some l[k] from h1]⟩
theorem cstep_far {x:Ctx}{d:Dot}(h:d.2>get x.1 d.1+1):cstep x d=(x.1,x.2++[d]):=if_pos h
theorem cstep_next {x:Ctx}{d:Dot}(h:¬d.2>get x.1 d.1+1)(k:d.2=get x.1 d.1+1):cstep x d=(Vc.mrg x.1 [d],x.2):=by unfold cstep;rw[if_neg h,if_pos k]
theorem cstep_near {x:Ctx}{d:Dot}(h:¬d.2>get x.1 d.1+1)(k:¬d.2=get x.1 d.1+1):cstep x d=x:=by unfold cstep;rw[if_neg h,if_neg k]
theorem cfold_take {l:List Dot}{x:Ctx}{k:Nat}(hk:k<l.length):(l.take (k+1)).foldl cstep x=cstep ((l.take k).foldl cstep x) l[k]:=by
 rw[List.take_succ_eq_append_getElem hk,List.foldl_append]
 rfl
theorem cpre_ok {x:Ctx}(h:Okx x)(k:Nat):Cmp ((x.2.take k).foldl cstep (x.1,[])):=
 (cfold_ok (x.2.take k) (x:=(x.1,[])) ⟨h.ok,List.Pairwise.nil,by simp,by simp⟩ (λd hd=>h.va d (List.mem_of_mem_take hd)) (h.st.sublist (List.take_sublist _ _)) (by simp)).1
theorem jitems_le (a b:Cart)(l:List Name):(jitems a b l).length<=l.length:=by
 unfold jitems;have h1:=List.length_filter_le (λx:Item=>decide (0<x.2.length)) (l.map (item a b));rw[List.length_map] at h1;exact h1
theorem jitems_take {a b:Cart}{l:List Name}{k:Nat}(hk:k<l.length):jitems a b (l.take (k+1))=jitems a b (l.take k)++(if 0<(item a b l[k]).2.length then [item a b l[k]] else []):=by
 unfold jitems;rw[List.take_succ_eq_append_getElem hk,List.map_append,List.filter_append,List.map_singleton]
 congr 1
 rw[List.filter_cons]
 by_cases h:0<(item a b l[k]).2.length
 ·rw [if_pos h,decide_eq_true h];rfl
 ·rw [if_neg h,decide_eq_false h];rfl
end Go.Pn.Jn
end
section
namespace Go.Pn
open Go.RowKit Go.Sort
section
open Go.Proofs
variable {α:Type}[Inhabited α]{enc:α->Value}{G:Flat α}{ty:TypeId}{B:Nat}{w:World}{l:List α}{g cap:Nat}
theorem getElemB_list (l:List α){i:Nat}(h:i<l.length):l.toArray[i]! =l[i]:=by
 rw[getElem!_pos l.toArray i (by simpa using h)]
 simp
theorem flat1_get {α:Type}{enc:α->Value}{G:Flat α}(hG:∀x,G.e x=[enc x])(l:List α):l.flatMap G.e=l.map enc:=by
 induction l with
 |nil=>rfl
 |cons a l ih=>rw[List.flatMap_cons,ih,hG];rfl
theorem OwnF.holds (hs:G.sz=1)(hG:∀x,G.e x=[enc x])(h:OwnF G ty B w (.slice (some ⟨g,0,none⟩) l.length cap) l):Holds enc w g 0 l.toArray∧g<w.heap.size:=by
 obtain ⟨h0,hm⟩:=h;rcases h0.2 with ⟨h1,_⟩|⟨g',cap',cur,h1,hb,hg,hn,hc,hsz,ht⟩
 ·cases h1
 ·have e1:g=g':=by cases h1;rfl
  subst e1;refine ⟨?_,lt_of_some hg⟩;intro j hj;have hj2:j<l.length:=by simpa using hj
  rw[hs,Nat.mul_one] at ht hsz;have hjc:j<cur.size:=by omega
  have hcell:cur[j]? =some (enc l.toArray[j]!):=by
   rw[getElemB_list l hj2];have h3:(cur.toList.take l.length)[j]? =some (enc l[j]):=by
    rw[ht,flat1_get hG,List.getElem?_map,List.getElem?_eq_getElem hj2]
    rfl
   rw[List.getElem?_take,if_pos hj2] at h3
   simpa using h3
  constructor
  ·simp only[World.cell?,hg,Nat.zero_add]
   simpa using hcell
  ·simp [World.frozen?,hg]
theorem OwnF.sorted (hs:G.sz=1)(hG:∀x,G.e x=[enc x])(h:OwnF G ty B w (.slice (some ⟨g,0,none⟩) l.length cap) l){d:Array α}(hd:d.size=l.length)(m:Nat)(os:Array Obj):
 OwnF G ty B (sortWorld enc w g 0 m d os) (.slice (some ⟨g,0,none⟩) l.length cap) d.toList∧Ext (λk=>k=g) w (sortWorld enc w g 0 m d os):=by
 obtain ⟨h0,hm⟩:=h;have hsize:(sortWorld enc w g 0 m d os).heap.size=w.heap.size+os.size:=by
  show (w.heap.modify g _++os).size=_;rw[Array.size_append,Array.size_modify]
 rcases h0.2 with ⟨h1,_⟩|⟨g',cap',cur,h1,hb,hg,hn,hc,hsz,ht⟩
 ·cases h1
 ·have e1:g=g':=by cases h1;rfl
  have e2:cap=cap':=by cases h1;rfl
  subst e1;subst e2;have hlt:g<w.heap.size:=lt_of_some hg;rw[hs,Nat.mul_one] at ht hsz
  constructor
  ·have hd2:d.toList.length=l.length:=by simpa using hd
   refine ⟨⟨?_,.inr ⟨g,cap,putCells enc 0 d cur,by rw[hd2],hb,?_,by rw[hd2];exact hn,hc,?_,?_⟩⟩,by rw[hd2];exact hm⟩
   ·rw [G.length]
   ·show (w.heap.modify g _++os)[g]? =_
    rw[Array.getElem?_append_left (by rw[Array.size_modify];exact hlt),Array.getElem?_modify,if_pos rfl,hg]
    rfl
   ·rw [hs,Nat.mul_one]
    unfold putCells;rw[Array.size_mapIdx];exact hsz
   ·rw [hs,Nat.mul_one,flat1_get hG,hd2]
    apply List.ext_getElem?
    intro j;unfold putCells
    by_cases hj:j<l.length
    ·have hjd:j<d.size:=by omega
     rw[List.getElem?_take,if_pos hj,List.getElem?_map,Array.getElem?_toList,Array.getElem?_mapIdx,Array.getElem?_eq_getElem (show j<cur.size by omega)];simp only[Option.map_some,Nat.zero_le,true_and,Nat.zero_add,if_pos hjd,Nat.sub_zero,Array.getElem?_toList,Array.getElem?_eq_getElem hjd];rw[getElem!_pos d j hjd]
    ·rw [List.getElem?_eq_none (by simp;omega),List.getElem?_eq_none (by simp;omega)]
  ·refine ⟨rfl,rfl,rfl,by rw[hsize];omega,λk hk hn=>?_⟩
   show (w.heap.modify g _++os)[k]? =_;rw[Array.getElem?_append_left (by rw[Array.size_modify];exact hk),Array.getElem?_modify,if_neg (λh=>hn h.symm)]
end
end Go.Pn
end
section
namespace Go.Pn.Dg
open Go Go.Pn
abbrev Ent:=Str×Cn.Cart
def check (l:List Ent):Int:=if 1024<l.length then 5 else if Bt.ordered l=true then 0 else 2
theorem check_long {l:List Ent}(h:1024<l.length):check l=5:=if_pos h
theorem check_bad {l:List Ent}(h:¬1024<l.length)(h2:Bt.ordered l=false):check l=2:=by
 unfold check;rw[if_neg h,if_neg (by rw[h2];decide)]
theorem check_ok {l:List Ent}(h:¬1024<l.length)(h2:Bt.ordered l=true):check l=0:=by
 unfold check;rw[if_neg h,if_pos h2]
def smI (x:List UInt8×List MarkT):Bool:=decide (x.1.length<=100)&&decide (x.2.length<=5)
def smE (x:Ent):Bool:=decide (x.1.length<=100∧x.2.2.length<=20∧x.2.1.2.length<=20∧x.2.1.1.length<=20)&&x.2.2.all smI
def small (l:List Ent)(most:Int):Bool:=decide ((l.length:Int)<=most)&&l.all smE
theorem small_no {l:List Ent}{most:Int}{i:Nat}(hi:i<l.length)(h:smE l[i]=false):small l most=false:=by unfold small;rw[Cn.all_no hi h,Bool.and_false]
theorem small_end {l:List Ent}{most:Int}(h:(l.length:Int)<=most->∀i,∀hi:i<l.length,smE l[i]=true):decide ((l.length:Int)<=most)=small l most:=by
 unfold small
 by_cases hm:(l.length:Int)<=most
 ·rw [Cn.all_yes (h hm),Bool.and_true]
 ·rw [decide_eq_false hm,Bool.false_and]
theorem smE_no {x:Ent}(h:¬(x.1.length<=100∧x.2.2.length<=20∧x.2.1.2.length<=20∧x.2.1.1.length<=20)):smE x=false:=by unfold smE;rw[decide_eq_false h,Bool.false_and]
theorem smE_it {x:Ent}{j:Nat}(hj:j<x.2.2.length)(h:smI x.2.2[j]=false):smE x=false:=by unfold smE;rw[Cn.all_no hj h,Bool.and_false]
theorem smE_yes {x:Ent}(h:x.1.length<=100∧x.2.2.length<=20∧x.2.1.2.length<=20∧x.2.1.1.length<=20)(h2:∀j,∀hj:j<x.2.2.length,smI x.2.2[j]=true):smE x=true:=by unfold smE;rw[decide_eq_true h,Cn.all_yes h2];rfl
theorem smI_yes {x:List UInt8×List MarkT}(h1:x.1.length<=100)(h2:x.2.length<=5):smI x=true:=by unfold smI;rw[decide_eq_true h1,decide_eq_true h2];rfl
theorem smI_no1 {x:List UInt8×List MarkT}(h1:¬x.1.length<=100):smI x=false:=by unfold smI;rw[decide_eq_false h1];rfl
theorem smI_no2 {x:List UInt8×List MarkT}(h2:¬x.2.length<=5):smI x=false:=by unfold smI;rw[decide_eq_false h2,Bool.and_false]
end Go.Pn.Dg
end
section
namespace Go.Pn.Bt
open Go Go.Pn Go.Pn.Jn
def Mid (n:Nat)(l:List Ent):Prop:=∀x∈l,x.2.1.1.length<=n∧x.2.1.2.length<=n∧x.2.2.length<=200000∧∀y∈x.2.2,y.1.length<=1000000∧y.2.length<=400000
theorem Mid.tall {x:Ent}(h:∀y∈x.2.2,y.1.length<=1000000∧y.2.length<=400000):∀y∈x.2.2,y.1.length<=1000000∧y.2.length<=1000000:=λy hy=>by have:=h y hy;omega
theorem join_sizes (a b:Cart):(join a b).1.1.length<=a.1.1.length+b.1.1.length+(a.1.2.length+b.1.2.length)∧(join a b).1.2.length<=a.1.2.length+b.1.2.length∧(join a b).2.length<=a.2.length+b.2.length:=⟨(cunion_len a.1 b.1).1,(cunion_len a.1 b.1).2,jitems_len a b⟩
theorem join_names {a b:Cart}(ga:GoodC a)(gb:GoodC b):∀y∈(join a b).2,y.1.length<=64:=λy hy=>((Cn.validQ (good_iff.2 (join_good ga gb))).2 y hy).1
theorem join_big {x y:Ent}{n:Nat}(hx:x.2.1.1.length<=n∧x.2.1.2.length<=n∧x.2.2.length<=200000∧∀y∈x.2.2,y.1.length<=1000000∧y.2.length<=400000)(hy:y.2.1.1.length<=n∧y.2.1.2.length<=n∧y.2.2.length<=200000∧∀z∈y.2.2,z.1.length<=1000000∧z.2.length<=400000)(hn:n<=100000)(gx:GoodC x.2)(gy:GoodC y.2):Cn.big (join x.2 y.2):=by
 obtain ⟨h1,h2,h3⟩:=join_sizes x.2 y.2;have h4:=join_marks (λz hz=>(hx.2.2.2 z hz).2) (λz hz=>(hy.2.2.2 z hz).2);have h5:=join_names gx gy;exact ⟨by omega,by omega,by omega,λz hz=>by have:=h4 z hz;have:=h5 z hz;omega⟩
section
variable {x y:Ent}{la lb:List Ent}
end
end Go.Pn.Bt
end
section
namespace Go.Pn
def ent0 (k:List UInt8):EntR:=(k,((none,0,0),(none,0,0)),(none,0,0))
def cart0:CartT:=(([],[]),[])
theorem CartAt.zero {w:World}{F:Nat->Prop}:CartAt w F (((none,0,0),(none,0,0)),(none,0,0)) cart0:=⟨Sl.nil _ _ _,Sl.nil _ _ _,Sl.nil _ _ _⟩
section
variable {te td ti tm:TypeId}{w:World}{lo hi:Nat}{u v:Value}{l:List EntT}
end
end Go.Pn
end
section
namespace Go.Pn.Ob
open Go Go.Pn Go.Pn.Jn Go.Pn.Bt
def At (ks:List Name)(k:Name)(i:Nat):Prop:=i<=ks.length∧(∀j,∀h:j<ks.length,j<i->BL ks[j] k)∧∀j,∀h:j<ks.length,i<=j->¬BL ks[j] k
theorem At.found {ks:List Name}{k:Name}{i:Nat}(h:At ks k i)(hp:ks.Pairwise BL):k∈ks↔∃q:i<ks.length,ks[i]=k:=by
 constructor
 ·intro hk
  obtain ⟨j,hj,e⟩:=List.getElem_of_mem hk;rcases Nat.lt_trichotomy j i with g|g|g
  ·exact absurd (e ▸ h.2.1 j hj g) (bl_irrefl _)
  ·subst g;exact ⟨hj,e⟩
  ·exact absurd (e ▸ (List.pairwise_iff_getElem.1 hp) i j (by omega) hj g) (h.2.2 i (by omega) (Nat.le_refl _))
 ·rintro ⟨q,e⟩
  rw[<-e];exact List.getElem_mem _
theorem bl_no {a b c:Name}(h:a=b∨BL a b)(hc:¬BL a c):¬BL b c:=λg=>hc (by rcases h with rfl|h;exact g;exact bl_trans h g)
theorem half_lo {ks:List Name}{k:Name}{m:Nat}(hp:ks.Pairwise BL)(hm:m<ks.length)(hb:BL ks[m] k):∀j,∀h:j<ks.length,j<m+1->BL ks[j] k:=by
 intro j hj hlt;rcases Nat.lt_or_eq_of_le (Nat.le_of_lt_succ hlt) with g|rfl
 ·exact bl_trans ((List.pairwise_iff_getElem.1 hp) j m hj hm g) hb
 ·exact hb
theorem half_hi {ks:List Name}{k:Name}{m:Nat}(hp:ks.Pairwise BL)(hm:m<ks.length)(hb:¬BL ks[m] k):∀j,∀h:j<ks.length,m<=j->¬BL ks[j] k:=by
 intro j hj hle;rcases Nat.lt_or_eq_of_le hle with g|rfl
 ·exact bl_no (.inr ((List.pairwise_iff_getElem.1 hp) m j hm hj g)) hb
 ·exact hb
theorem half64 {m:Int}(h0:0<=m)(h1:m<9223372036854775808):((BitVec.ofInt 64 m)>>>1).toInt=m/2:=by
 have e:(BitVec.ofInt 64 m).toNat=m.toNat:=by
  rw[BitVec.toNat_ofInt]
  omega
 have e2:((BitVec.ofInt 64 m)>>>1).toNat=m.toNat/2:=by rw[BitVec.toNat_ushiftRight,e,Nat.shiftRight_eq_div_pow]
 rw[BitVec.toInt_eq_toNat_of_lt (by rw[e2];omega),e2]
 omega
def keys (l:List Ent):List Name:=l.map (·.1)
theorem keys_len (l:List Ent):(keys l).length=l.length:=List.length_map _
theorem keys_get (l:List Ent)(i:Nat)(h:i<(keys l).length):(keys l)[i]=(l[i]'(by rw[keys_len] at h;exact h)).1:=List.getElem_map _
theorem keys_pw {l:List Ent}(h:Ord l):(keys l).Pairwise BL:=List.pairwise_map.2 h.up
theorem keys_mem {l:List Ent}{k:Name}:k∈keys l↔∃x∈l,x.1=k:=List.mem_map
theorem get_keys {l:List Ent}{k:Name}:(get l k).isSome↔k∈keys l:=by
 unfold Bt.get;rw[Option.isSome_map,List.find?_isSome,keys_mem];simp only[decide_eq_true_eq]
def put (n:Int)(l:List Ent)(d:List Name)(k:Name)(c:Bt.Cart):List Ent×List Name:=
 if k∈d then (l,d) else if k∉keys l∧(l.length:Int)=n then (l,nins k d) else (merge l [(k,c)],d)
end Go.Pn.Ob
end
section
namespace Go.Pn.Dg
open Go Go.Pn
def leafOf (x:Ent):Leaf:=(x.1,hash (x.1++[0]++Cn.bytes x.2))
def dig (l:List Ent):Dig:=grown (l.map leafOf)
def of (l:List Ent):Dig:=if check l=0 then dig l else zero
theorem of_ok {l:List Ent}(h:check l=0):of l=dig l:=if_pos h
theorem of_bad {l:List Ent}(h:¬check l=0):of l=zero:=if_neg h
theorem check_zero {l:List Ent}(h:check l=0):l.length<=1024∧Bt.ordered l=true:=by
 unfold check at h
 split at h
 ·cases h
 ·split at h
  ·exact ⟨by omega,by assumption⟩
  ·cases h
theorem ordered_ok {l:List Ent}(h:Bt.ordered l=true){x:Ent}(hx:x∈l):Bt.okKey x.1=true∧Cn.valid x.2=true:=by
 unfold Bt.ordered at h;rw[Bool.and_eq_true] at h;have h1:=List.all_eq_true.1 h.1 x hx;unfold Bt.okE at h1;rwa [Bool.and_eq_true] at h1
theorem leaves_take (l:List Ent){k:Nat}(h:k<l.length):(l.take (k+1)).map leafOf=(l.take k).map leafOf++[leafOf l[k]]:=by
 rw[List.take_succ_eq_append_getElem h,List.map_append]
 rfl
theorem leaves_key {l:List Ent}{n:Nat}(h:∀x∈l,x.1.length<=n):∀x∈l.map leafOf,x.1.length<=n:=by
 intro x hx;obtain ⟨y,hy,rfl⟩:=List.mem_map.1 hx;exact h y hy
end Go.Pn.Dg
end
section
namespace Go.Pn.Dg
open Go Go.Pn
def noC:Cn.Cart:=(([],[]),[])
def getC (l:List Ent)(k:Str):Cn.Cart:=match l.find? (λx=>decide (x.1=k)) with
 |some x=>x.2
 |none=>noC
theorem getC_no {l:List Ent}{k:Str}(h:k∉Ob.keys l):getC l k=noC:=by
 unfold getC;have:l.find? (λx=>decide (x.1=k))=none:=by
  rw[List.find?_eq_none];intro x hx;simp only[decide_eq_true_eq];intro q;exact h (q ▸ List.mem_map_of_mem (f:=λy:Ent=>y.1) hx)
 rw[this]
theorem getC_at {l:List Ent}{k:Str}(hp:(Ob.keys l).Pairwise Jn.BL){i:Nat}(hi:i<l.length)(h:l[i].1=k):getC l k=l[i].2:=by
 unfold getC;have:l.find? (λx=>decide (x.1=k))=some l[i]:=by
  rw[List.find?_eq_some_iff_getElem];refine ⟨by simpa using h,i,hi,rfl,λj hj=>?_⟩;simp only[Bool.not_eq_true',decide_eq_false_iff_not];intro q;have h1:j<(Ob.keys l).length:=by rw[Ob.keys_len];omega
  have h2:i<(Ob.keys l).length:=by rw[Ob.keys_len];exact hi
  have h3:=List.pairwise_iff_getElem.1 hp j i h1 h2 hj;rw[Ob.keys_get,Ob.keys_get,q,h] at h3;exact Jn.bl_irrefl _ h3
 rw[this]
end Go.Pn.Dg
end
section
namespace Go.Pn.Dg
open Go Go.Pn
structure Chg where
 what:Int
 leaf:Int
 sum:BitVec 64
 made:Bool
def ix (c:Chg)(n:Nat):Nat:=(BitVec.ofInt 64 c.leaf%BitVec.ofNat 64 n).toNat
def setS (l:List Leaf)(i:Nat)(s:BitVec 64):List Leaf:=l.set i ((l.getD i ([],0)).1,s)
def cut (l:List Leaf)(c:Chg):List Leaf:=
 if 0<l.length then (if c.what=1 then (setS l (ix c l.length) c.sum).take (ix c l.length)++(setS l (ix c l.length) c.sum).drop (ix c l.length+1) else setS l (ix c l.length) c.sum) else l
def made (d:Dig)(c:Chg):Dig:=if c.made=true then grown (cut d.ls c) else ⟨cut d.ls c,d.bs,d.rt⟩
end Go.Pn.Dg
end
section
namespace Go.Pn
open Go.RowKit
section
variable {P:Program}{n':Nat}{ops rest:List Oper}{N:Val->World->Prop}{Z:List PanicEntry->World->Prop}{f:Val}{w:World}
 {d:Nat}{x y:Operand}{dT sT tr e:TypeId}{pos:String}{after:Array Edge}{α:Type}{G:Flat α}
theorem flat_len (G:Flat α)(ys:List α):(ys.flatMap G.e).length=ys.length*G.sz:=by
 induction ys with
 |nil=>simp
 |cons a l ih=>rw[List.flatMap_cons,List.length_append,ih,G.len,List.length_cons,Nat.succ_mul,Nat.add_comm]
end
end Go.Pn
end
section
namespace Go.Pn
open Go.RowKit
theorem Flat.setN {α:Type}(G:Flat α){off:Nat}{z:α}{vs:List Value}:∀(xs:List α) (i:Nat) (h:i<xs.length),off+vs.length<=G.sz->G.e z=(G.e xs[i]).take off++vs++(G.e xs[i]).drop (off+vs.length)->
 (xs.flatMap G.e).take (i*G.sz+off)++vs++(xs.flatMap G.e).drop (i*G.sz+off+vs.length)=(xs.set i z).flatMap G.e
 |[],i,h,_,_=>by simp at h
 |x::xs,0,h,ho,hz=>by
  have hl:=G.len x;simp only[List.getElem_cons_zero] at hz;rw[List.flatMap_cons,List.set_cons_zero,List.flatMap_cons,Nat.zero_mul,Nat.zero_add,hz,List.take_append_of_le_length (by omega),List.drop_append_of_le_length (by omega)];simp only[List.append_assoc]
 |x::xs,i+1,h,ho,hz=>by
  have hl:=G.len x;simp only[List.getElem_cons_succ] at hz;have ih:=Flat.setN G (off:=off) (z:=z) (vs:=vs) xs i (by simpa using h) ho hz;have e1:(i+1)*G.sz+off=(G.e x).length+(i*G.sz+off):=by rw[Nat.add_mul];omega
  rw[List.flatMap_cons,List.set_cons_succ,List.flatMap_cons,<-ih,e1,List.take_length_add_append,show (G.e x).length+(i*G.sz+off)+vs.length=(G.e x).length+(i*G.sz+off+vs.length) by omega,List.drop_length_add_append];simp only[List.append_assoc]
theorem OwnF.putN {α:Type}{G:Flat α}{ty:TypeId}{B:Nat}{w:World}{g cap:Nat}{xs:List α}(P:Program){i off:Nat}{z:α}{vs:List Value}(h:OwnF G ty B w (.slice (some ⟨g,0,none⟩) xs.length cap) xs)(hi:i<xs.length)(hof:off+vs.length<=G.sz)(h1:∀v∈vs,v.oneCell'=true)(hz:G.e z=(G.e xs[i]).take off++vs++(G.e xs[i]).drop (off+vs.length)):
 ∃w',(storeCells ⟨g,i*G.sz+off,none⟩ vs 0).run P w=.ok () w'∧OwnF G ty B w' (.slice (some ⟨g,0,none⟩) xs.length cap) (xs.set i z)∧Ext (λk=>k=g) w w'∧w'.heap.size=w.heap.size:=by
 obtain ⟨h0,hm⟩:=h;rcases h0.2 with ⟨q1,_⟩|⟨g',cap',cur,q1,hb,hg,hn,hc,hsz,ht⟩
 ·cases q1
 ·have e1:g=g':=by cases q1;rfl
  have e2:cap=cap':=by cases q1;rfl
  subst e1;subst e2;have hle:(i+1)*G.sz<=xs.length*G.sz:=Nat.mul_le_mul_right _ hi;have hle2:xs.length*G.sz<=cap*G.sz:=Nat.mul_le_mul_right _ hn;have hmul:(i+1)*G.sz=i*G.sz+G.sz:=by rw[Nat.add_mul,Nat.one_mul]
  have h00:Own0 w g ty cur.toList:=by simpa[Own0] using hg
  obtain ⟨w',hr,ho,he,hs⟩:=run_storeCells_own0 (P:=P) vs (i*G.sz+off) 0 cur.toList w h00 (by simp;omega) h1;rw[Nat.add_zero] at ho;refine ⟨w',hr,⟨⟨by rw[G.length],.inr ⟨g,cap,(cur.toList.take (i*G.sz+off)++vs++cur.toList.drop (i*G.sz+off+vs.length)).toArray,by rw[List.length_set],hb,ho,by rw[List.length_set];exact hn,hc,?_,?_⟩⟩,by rw[List.length_set];exact hm⟩,he,hs⟩
  ·simp
   omega
  ·rw [List.length_set,<-G.setN xs i hi hof hz,<-ht]
   simp only[];have hAB:(cur.toList.take (i*G.sz+off)++vs).length=i*G.sz+off+vs.length:=by
    rw[List.length_append,List.length_take,Array.length_toList,Nat.min_eq_left (by omega)]
   rw[List.take_append,List.take_of_length_le (by rw[hAB];omega),hAB,List.take_take,Nat.min_eq_left (by omega),<-List.drop_take]
section
variable
 {x y:Operand}{t tr ty:TypeId}{pos:String}{after:Array Edge}{α:Type}
theorem O.storeP {G:Flat α}{B g cap i off k s:Nat}{xs:List α}{vs:List Value}(z:α)(hk:k=i*G.sz+off)(hsz:∀w,(sizeOf t).run P w=.ok s w)(hl:vs.length=s)(hx:ev n f x=.pointer (some ⟨g,k,none⟩))(hy:ev n f y=.agg vs.toArray)(h1:∀v∈vs,v.oneCell'=true)
 (ho:OwnF G ty B w (.slice (some ⟨g,0,none⟩) xs.length cap) xs)(hi:i<xs.length)(hof:off+vs.length<=G.sz)(hz:G.e z=(G.e xs[i]).take off++vs++(G.e xs[i]).drop (off+vs.length))
 (h:∀w',OwnF G ty B w' (.slice (some ⟨g,0,none⟩) xs.length cap) (xs.set i z)->Ext (λk=>k=g) w w'->w'.heap.size=w.heap.size->O P n ops rest N Z f w'):
 O P n ops ({dst:=.none,op:=.store t x y,type:=tr,pos:=pos,after:=after,guard:=.none}::rest) N Z f w:=by
 subst hk;subst hl;obtain ⟨w',hr,ho',he,hs⟩:=ho.putN P hi hof h1 hz;refine O.act rfl rfl ?_ (h w' ho' he hs);have h3:execOp (ev n f) {dst:=.none,op:=.store t x y,type:=tr,pos:=pos,after:=after,guard:=.none}=(do Instr.storeAt t (ev n f x) (ev n f y);pure .skip):=rfl;rw[h3,Sem.run_bind,hx,hy];have h4:(Instr.storeAt t (.pointer (some ⟨g,i*G.sz+off,none⟩)) (.agg vs.toArray)).run P w=.ok () w':=by
  simp[Instr.storeAt,Instr.sureAddr,storeVar,hsz,Value.cells,hr]
 rw[h4]
 rfl
end
theorem EntL.set {w:World}{F:Nat->Prop}{raw:List EntR}{l:List EntT}{a:EntR}{x:EntT}{k:Nat}(h:EntL w F raw l)(hn:a.1=x.1)(hm:CartAt w F a.2 x.2):EntL w F (raw.set k a) (l.set k x):=by
 refine ⟨by rw[List.length_set,List.length_set];exact h.1,λi h1 h2=>?_⟩;rw[List.length_set] at h1 h2;rw[List.getElem_set,List.getElem_set]
 split
 ·exact ⟨hn,hm⟩
 ·exact h.2 i h1 h2
theorem EntL.zero {w:World}{F:Nat->Prop}{ks:List (List UInt8)}:EntL w F (ks.map ent0) (ks.map λk=>(k,cart0)):=by
 refine ⟨by rw[List.length_map,List.length_map],λi h1 h2=>?_⟩;rw[List.getElem_map,List.getElem_map];exact ⟨rfl,CartAt.zero⟩
end Go.Pn
end
section
namespace Go.Pn
open Go.RowKit
section
variable {P:Program}{n':Nat}{ops rest:List Oper}{N:Val->World->Prop}{Z:List PanicEntry->World->Prop}{f:Val}{w:World}
 {d:Nat}{x y:Operand}{dT sT tr e tn:TypeId}{pos:String}{after:Array Edge}{α:Type}{G:Flat α}
theorem O.copy0 {b off n c b2 off2 m c2 s k:Nat}{ty:TypeId}{cs vs:List Value}(ht:P.underlying dT=some (.slice e))(hsz:∀w,(sizeOf e).run P w=.ok s w)(hx:ev n' f x=.slice (some ⟨b,off,none⟩) n c)(hy:ev n' f y=.slice (some ⟨b2,off2,none⟩) m c2)
 (ho:Own0 w b ty cs)(hl:vs.length=k*s)(h1:∀v∈vs,v.oneCell'=true)(hcell:∀j v,vs[j]? =some v->w.cell? ⟨b2,off2+j,none⟩=some v)(hk:min m n=k)(hfit:off+vs.length<=cs.length)
 (h:∀w',Own0 w' b ty (cs.take off++vs++cs.drop (off+vs.length))->Ext (λk=>k=b) w w'->w'.heap.size=w.heap.size->O P n' ops rest N Z (upd f d (i64 (k:Int))) w'):
 O P n' ops (ZO d (.call {callee:=.builtin .copy,args:=[x,y].toArray,argTypes:=[dT,sT].toArray}) tr pos after::rest) N Z f w:=by
 obtain ⟨w',hst,ho',he,hs⟩:=run_storeCells_own0 (P:=P) vs off 0 cs w ho (by omega) h1;have hr:(Builtin.copy_ #[dT,sT] tr #[.slice (some ⟨b,off,none⟩) n c,.slice (some ⟨b2,off2,none⟩) m c2]).run P w=.ok (goInt k) w':=by
  have hld:=run_loadCells_list (P:=P) w ⟨b2,off2,none⟩ vs (λj v hj=>by rw[Addr.add_none];exact hcell j v hj);rw[hl] at hld;have hmin:Nat.min m n=k:=hk
  simp[Builtin.copy_,run_underlying ht,Builtin.lenOf,Builtin.firstCells,hsz,hmin,hld,hst]
 refine O.val rfl rfl ?_ (h w' (by rw[Nat.add_zero] at ho';exact ho') he hs);have h3:(execOp (ev n' f) (ZO d (.call {callee:=.builtin .copy,args:=[x,y].toArray,argTypes:=[dT,sT].toArray}) tr pos after)).run P w=((Builtin.copy_ #[dT,sT] tr #[ev n' f x,ev n' f y]).run P w).andThen (λv w=>.ok (.value v) w):=by
  simp[execOp,resolve,invoke,builtin]
 rw[h3,hx,hy,hr]
 rfl
theorem O.appZG {i:TypeInfo}{z:Value}{zx:α}{kq kn:IntKind}{b off sLen sCap k m:Nat}{olds:List Value}(ht:P.underlying dT=some (.slice e))(htn:P.underlying tn=some (.int kn))(hi:P.info? e=some i)(hz:i.zero=some z)(hsz:i.size=G.sz)(hzx:z.cells.toList=G.e zx)
 (hx:ev n' f x=.slice (some ⟨b,off,none⟩) sLen sCap)(hy:ev n' f y=.int kq (k:Int))(hol:olds.length=sLen*G.sz)(hcell:∀j v,olds[j]? =some v->w.cell? ⟨b,off+j,none⟩=some v)(h0:0<k)(hg:sCap<sLen+k)(hm:sLen+k=m)(hb:m*i.bytes<=140737488355328)(hml:m<=maxLen)
 (h:∀b' cap w',w.heap.size<=b'->m<=cap->cap<=maxLen->Own0 w' b' e (olds++(List.replicate (cap-sLen) zx).flatMap G.e)->Le w w'->O P n' ops rest N Z (upd f d (.slice (some ⟨b',0,none⟩) m cap)) w'):
 O P n' ops (ZO d (.call {callee:=.builtin .append,args:=[x,y].toArray,argTypes:=[dT,tn].toArray}) tr pos after::rest) N Z f w:=by
 subst hm;have hzsz:z.cells.size=G.sz:=by rw[<-Array.length_toList,hzx,G.len]
 have hge:=grownCap_ge w (sLen+k) sCap e;have hcm:grownCap w (sLen+k) sCap e<=maxLen:=grownCap_le_maxLen w (sLen+k) sCap e hml;have hold:(Builtin.firstCells i.size sLen (.slice (some ⟨b,off,none⟩) sLen sCap)).run P w.drew=.ok olds.toArray w.drew:=by
  have hld:=run_loadCells_list (P:=P) w.drew ⟨b,off,none⟩ olds (λj v hj=>by rw[Addr.add_none];exact hcell j v hj);rw[hol] at hld
  simp[Builtin.firstCells,hsz,hld]
 have hnext:Builtin.nextslicecap (sLen+k) sCap<=2*(sLen+k):=Go.nextslicecap_le hg;have hbk:k*i.bytes<=(sLen+k)*i.bytes:=Nat.mul_le_mul_right _ (by omega);have hbn:Builtin.nextslicecap (sLen+k) sCap*i.bytes<=2*(sLen+k)*i.bytes:=Nat.mul_le_mul_right _ hnext;have hb2:2*(sLen+k)*i.bytes=2*((sLen+k)*i.bytes):=by rw[Nat.mul_assoc]
 have hr:=Go.Lib.run_append_grow_zeros (P:=P) w dT tn tr e i z kq kn ht htn hi hz (some ⟨b,off,none⟩) sLen sCap olds hold k h0 (by rw[hsz];exact G.pos) hg (by unfold maxLen at hml;omega) (by omega) (by omega);obtain ⟨w1,hw1⟩:∃w1,w1=w.drew.alloc (.cells (olds.toArray++Builtin.zeroCells z.cells k++Builtin.zeroCells z.cells (grownCap w (sLen+k) sCap e-(sLen+k))) e):=⟨_,rfl⟩
 rw[<-hw1] at hr;have hblk:w1.heap[w.heap.size]? =some (.cells (olds.toArray++Builtin.zeroCells z.cells k++Builtin.zeroCells z.cells (grownCap w (sLen+k) sCap e-(sLen+k))) e (0,0)):=by rw[hw1];exact heap_alloc_new w.drew _
 have hle:Le w w1:=by rw[hw1];exact (Le.drew w).trans (Le.alloc _ _)
 refine O.val rfl rfl (w':=w1) ?_ (h w.heap.size (grownCap w (sLen+k) sCap e) w1 (Nat.le_refl _) hge hcm ?_ hle)
 ·have h3:(execOp (ev n' f) (ZO d (.call {callee:=.builtin .append,args:=[x,y].toArray,argTypes:=[dT,tn].toArray}) tr pos after)).run P w=((Builtin.append_ #[dT,tn] tr #[ev n' f x,ev n' f y]).run P w).andThen (λv w=>.ok (.value v) w):=by
   simp[execOp,resolve,invoke,builtin]
  rw[h3,hx,hy,hr]
  rfl
 ·have e1:olds++(List.replicate (grownCap w (sLen+k) sCap e-sLen) zx).flatMap G.e=(olds.toArray++Builtin.zeroCells z.cells k++Builtin.zeroCells z.cells (grownCap w (sLen+k) sCap e-(sLen+k))).toList:=by
   rw[Array.toList_append,Array.toList_append,zeroCells_flat hzx,zeroCells_flat hzx,List.append_assoc,<-List.flatMap_append,List.replicate_append_replicate]
   congr 3
   omega
  rw[e1];unfold Own0;rw[Array.toArray_toList];exact hblk
end
theorem Own0.kO {M:Nat->Prop}{w w':World}{b:Nat}{ty:TypeId}{cs:List Value}(h:Own0 w b ty cs)(e:Ext M w w')(hM:¬M b:=by intro h;(try dsimp only at h);omega):Own0 w' b ty cs:=h.kM e hM
theorem OwnF.ofRow {α:Type}{G:Flat α}{ty:TypeId}{B:Nat}{w:World}{g cap n:Nat}{cs:List Value}{xs:List α}(h:Own0 w g ty cs)(hB:B<=g)(hl:cs.length=cap*G.sz)(hx:xs.length=n)(hn:n<=cap)(hc:cap<=maxLen)(ht:cs.take (n*G.sz)=xs.flatMap G.e):OwnF G ty B w (.slice (some ⟨g,0,none⟩) n cap) xs:=by
 subst hx;refine ⟨⟨by rw[G.length],.inr ⟨g,cap,cs.toArray,rfl,hB,h,hn,hc,?_,?_⟩⟩,by omega⟩
 ·rw [List.size_toArray,hl]
 ·exact ht
theorem OwnF.row {α:Type}{G:Flat α}{ty:TypeId}{B:Nat}{w:World}{v:Value}{xs:List α}(h:OwnF G ty B w v xs):(v=.slice none 0 0∧xs=[])∨∃g cap cs,v=.slice (some ⟨g,0,none⟩) xs.length cap∧B<=g∧Own0 w g ty cs∧cs.length=cap*G.sz∧xs.length<=cap∧cap<=maxLen∧cs.take (xs.length*G.sz)=xs.flatMap G.e:=by
 rcases h.1.2 with ⟨h1,h2⟩|⟨g,cap,cur,h1,hB,hg,hn,hc,hs,ht⟩
 ·exact .inl ⟨h1,List.eq_nil_of_length_eq_zero h2⟩
 ·exact .inr ⟨g,cap,cur.toList,h1,hB,by unfold Own0;rw[Array.toArray_toList];exact hg,by rw[Array.length_toList,hs],hn,hc,ht⟩
theorem ins_A {α:Type}{L a x d:List α}{p q r:Nat}(hp:a.length=p)(hq:p+x.length=q)(hr:q+d.length=r)(h:L.take (p+d.length)=a++d)(hl:r<=L.length):
 ((L.take q++d++L.drop r).take p++x++(L.take q++d++L.drop r).drop q).take r=a++x++d:=by
 have e1:(L.take q++d++L.drop r).take p=a:=by
  rw[List.append_assoc,List.take_append_of_le_length (by rw[List.length_take];omega),List.take_take,Nat.min_eq_left (by omega)];have:=congrArg (List.take p) h;rw[List.take_take,Nat.min_eq_left (by omega),List.take_left' hp] at this;exact this
 have e2:(L.take q++d++L.drop r).drop q=d++L.drop r:=by
  rw[List.append_assoc];exact List.drop_left' (by rw[List.length_take];omega)
 rw[e1,e2,<-List.append_assoc];exact List.take_left' (by simp only[List.length_append];omega)
theorem ins_B {α:Type}{L a x d:List α}{p q r:Nat}(hp:a.length=p)(hq:p+x.length=q)(hr:q+d.length=r)(h:L.take p=a):
 ((L.take p++x++L.drop q).take q++d++(L.take p++x++L.drop q).drop r).take r=a++x++d:=by
 have e1:(L.take p++x++L.drop q).take q=a++x:=by
  rw[h];exact List.take_left' (by rw[List.length_append];omega)
 rw[e1];exact List.take_left' (by simp only[List.length_append];omega)
theorem flat_take {α:Type}(G:Flat α)(xs:List α)(i:Nat):(xs.take i).flatMap G.e=(xs.flatMap G.e).take (i*G.sz):=by
 induction xs generalizing i with
 |nil=>simp
 |cons x xs ih=>
  cases i with
  |zero=>simp
  |succ i=>rw[List.take_succ_cons,List.flatMap_cons,List.flatMap_cons,ih,List.take_append,G.len,List.take_of_length_le (l:=G.e x) (by rw[G.len,Nat.succ_mul];omega),Nat.succ_mul,Nat.add_sub_cancel]
theorem flat_drop {α:Type}(G:Flat α)(xs:List α)(i:Nat):(xs.drop i).flatMap G.e=(xs.flatMap G.e).drop (i*G.sz):=by
 induction xs generalizing i with
 |nil=>simp
 |cons x xs ih=>
  cases i with
  |zero=>simp
  |succ i=>rw[List.drop_succ_cons,List.flatMap_cons,ih,List.drop_append,G.len,List.drop_of_length_le (l:=G.e x) (by rw[G.len,Nat.succ_mul];omega),Nat.succ_mul,Nat.add_sub_cancel,List.nil_append]
theorem flat_ins {α:Type}(G:Flat α)(xs:List α)(i:Nat)(x:α):(xs.take i++x::xs.drop i).flatMap G.e=(xs.take i).flatMap G.e++G.e x++(xs.drop i).flatMap G.e:=by
 rw[List.flatMap_append,List.flatMap_cons,List.append_assoc]
theorem row_part {α:Type}{G:Flat α}{cs:List Value}{xs:List α}{i:Nat}(ht:cs.take (xs.length*G.sz)=xs.flatMap G.e):∀(j:Nat) (v:Value),((xs.drop i).flatMap G.e)[j]? =some v->cs[i*G.sz+j]? =some v:=λj v h=>by
 rw[flat_drop,<-ht,List.getElem?_drop,List.getElem?_take] at h
 split at h
 ·exact h
 ·cases h
theorem row_first {α:Type}{G:Flat α}{cs:List Value}{xs:List α}{i:Nat}(ht:cs.take (xs.length*G.sz)=xs.flatMap G.e):∀(j:Nat) (v:Value),((xs.take i).flatMap G.e)[j]? =some v->cs[j]? =some v:=λj v h=>by
 rw[flat_take,<-ht,List.getElem?_take] at h
 split at h
 ·rw [List.getElem?_take] at h
  split at h
  ·exact h
  ·cases h
 ·cases h
theorem EntL.ins {w:World}{F:Nat->Prop}{raw:List EntR}{l:List EntT}{a:EntR}{x:EntT}(h:EntL w F raw l)(i:Nat)(hn:a.1=x.1)(hm:CartAt w F a.2 x.2):EntL w F (raw.take i++a::raw.drop i) (l.take i++x::l.drop i):=by
 have h1:=((h.sub 0 i).snoc hn hm).append (h.drop i);rw[List.drop_zero,List.drop_zero,List.append_assoc,List.append_assoc] at h1;exact h1
theorem shape0 {w:World}{b k:Nat}{ty:TypeId}{cs:List Value}(h:Own0 w b ty cs)(hl:cs.length=k):w.shape? b=some (ty,k):=by
 subst hl;unfold World.shape?;rw[h]
 rfl
theorem unfrozen0 {w:World}{b k:Nat}{ty:TypeId}{cs:List Value}(h:Own0 w b ty cs):w.frozen? ⟨b,k,none⟩=false:=by
 unfold World.frozen?;rw[h]
 rfl
end Go.Pn
end
section
namespace Go.Pn.Dg
open Go Go.Pn
def both (x y:Ent):Cn.Cart:=if (leafOf x).2=(leafOf y).2 then x.2 else Jn.join x.2 y.2
def syncM:List Ent->List Ent->List Ent
 |[],m=>m
 |x::l,[]=>x::l
 |x::l,y::m=>if Op.bytesLess x.1 y.1=true then x::syncM l (y::m) else if Op.bytesLess y.1 x.1=true then y::syncM (x::l) m else (x.1,both x y)::syncM l m
termination_by a b=>a.length+b.length
theorem syncM_nil (m:List Ent):syncM [] m=m:=by rw[syncM]
theorem syncM_nil2 (l:List Ent):syncM l []=l:=by
 cases l with
 |nil=>rw[syncM]
 |cons x l=>rw[syncM]
theorem syncM_a {x y:Ent}{l m:List Ent}(h:Op.bytesLess x.1 y.1=true):syncM (x::l) (y::m)=[x]++syncM l (y::m):=by
 rw[syncM,if_pos h];rfl
theorem syncM_b {x y:Ent}{l m:List Ent}(h:Op.bytesLess x.1 y.1=false)(h2:Op.bytesLess y.1 x.1=true):syncM (x::l) (y::m)=[y]++syncM (x::l) m:=by
 rw[syncM,if_neg (by rw[h];decide),if_pos h2];rfl
theorem syncM_c {x y:Ent}{l m:List Ent}(h:Op.bytesLess x.1 y.1=false)(h2:Op.bytesLess y.1 x.1=false):syncM (x::l) (y::m)=[(x.1,both x y)]++syncM l m:=by
 rw[syncM,if_neg (by rw[h];decide),if_neg (by rw[h2];decide)];rfl
open Go.Pn.Bt Go.Pn.Jn in
def sj (k:Str):Option Cn.Cart->Option Cn.Cart->Option Cn.Cart
 |none,y=>y
 |x,none=>x
 |some a,some b=>some (both (k,a) (k,b))
open Go.Pn.Bt Go.Pn.Jn in
theorem syncM_get {a b:List Ent}(ha:Ord a)(hb:Ord b)(k:Str):get (syncM a b) k=sj k (get a k) (get b k):=by
 have key:∀(n:Nat) (a b:List Ent),a.length+b.length<=n->Ord a->Ord b->get (syncM a b) k=sj k (get a k) (get b k):=by
  intro n
  induction n with
  |zero=>
   intro a b h _ _;have hx:a=[]:=List.eq_nil_of_length_eq_zero (by omega);have hy:b=[]:=List.eq_nil_of_length_eq_zero (by omega);subst hx hy;rw[syncM_nil]
   rfl
  |succ n ih=>
   intro a b h ha hb;cases a with
   |nil=>rw[syncM_nil];rfl
   |cons p x=>
    cases b with
    |nil=>rw[syncM_nil2,get_nil];cases get (p::x) k<;>rfl
    |cons q y=>
     simp only[List.length_cons] at h;rcases bl_total p.1 q.1 with c|c|c
     ·rw [syncM_a c,List.singleton_append,get_cons,get_cons p]
      split
      ·rename_i e
       have:get (q::y) k=none:=get_less λz hz=>by
        rw[<-e];rcases List.mem_cons.1 hz with g|hz
        ·rw [g];exact c
        ·exact bl_trans c (hb.head z hz)
       rw[this]
       rfl
      ·exact ih x (q::y) (by simp;omega) ha.tail hb
     ·have c1:Op.bytesLess p.1 q.1=false:=by rw[c];exact Bool.eq_false_iff.2 (bl_irrefl _)
      have c2:Op.bytesLess q.1 p.1=false:=by rw[c];exact Bool.eq_false_iff.2 (bl_irrefl _)
      rw[syncM_c c1 c2,List.singleton_append,get_cons,get_cons,get_cons,<-c]
      split
      ·rename_i e
       show some (both p q)=some (both (k,p.2) (k,q.2));have e1:(k,p.2)=p:=Prod.ext e.symm rfl;have e2:(k,q.2)=q:=Prod.ext (e.symm.trans c) rfl;rw[e1,e2]
      ·exact ih x y (by omega) ha.tail hb.tail
     ·have c1:Op.bytesLess p.1 q.1=false:=Bool.eq_false_iff.2 λg=>bl_irrefl _ (bl_trans g c)
      rw[syncM_b c1 c,List.singleton_append,get_cons,get_cons q]
      split
      ·rename_i e
       have:get (p::x) k=none:=get_less λz hz=>by
        rw[<-e];rcases List.mem_cons.1 hz with g|hz
        ·rw [g];exact c
        ·exact bl_trans c (ha.head z hz)
       rw[this]
       rfl
      ·exact ih (p::x) y (by simp;omega) ha hb.tail
 exact key _ a b (Nat.le_refl _) ha hb
theorem syncM_keys:∀(a b:List Ent),∀x∈syncM a b,(∃y∈a,y.1=x.1)∨∃y∈b,y.1=x.1
 |[],m,x,hx=>by rw[syncM_nil] at hx;exact .inr ⟨x,hx,rfl⟩
 |p::l,[],x,hx=>by rw[syncM_nil2] at hx;exact .inl ⟨x,hx,rfl⟩
 |p::l,q::m,x,hx=>by
  rw[syncM] at hx
  split at hx
  ·rcases List.mem_cons.1 hx with e|hx
   ·exact .inl ⟨p,.head _,by rw[e]⟩
   ·rcases syncM_keys l (q::m) x hx with ⟨z,hz,e⟩|h2
    ·exact .inl ⟨z,.tail _ hz,e⟩
    ·exact .inr h2
  ·split at hx
   ·rcases List.mem_cons.1 hx with e|hx
    ·exact .inr ⟨q,.head _,by rw[e]⟩
    ·rcases syncM_keys (p::l) m x hx with h2|⟨z,hz,e⟩
     ·exact .inl h2
     ·exact .inr ⟨z,.tail _ hz,e⟩
   ·rcases List.mem_cons.1 hx with e|hx
    ·exact .inl ⟨p,.head _,by rw[e]⟩
    ·rcases syncM_keys l m x hx with ⟨z,hz,e⟩|⟨z,hz,e⟩
     ·exact .inl ⟨z,.tail _ hz,e⟩
     ·exact .inr ⟨z,.tail _ hz,e⟩
termination_by a b=>a.length+b.length
open Go.Pn.Bt Go.Pn.Jn in
theorem both_good {x y:Ent}(hx:GoodC x.2)(hy:GoodC y.2):GoodC (both x y):=by
 unfold both
 split
 ·exact hx
 ·exact join_good hx hy
open Go.Pn.Bt Go.Pn.Jn in
theorem syncM_ord:∀(a b:List Ent),Ord a->Ord b->Ord (syncM a b)
 |[],m,_,hb=>by rw[syncM_nil];exact hb
 |p::l,[],ha,_=>by rw[syncM_nil2];exact ha
 |p::l,q::m,ha,hb=>by
  have cons:∀{p:Ent} {l:List Ent},okKey p.1=true∧GoodC p.2->Ord l->(∀x∈l,BL p.1 x.1)->Ord (p::l):=λhp hl hx=>
   ⟨λx hm=>(List.mem_cons.1 hm).elim (λe=>e ▸ hp) (hl.ok x),List.pairwise_cons.2 ⟨hx,hl.up⟩⟩
  rcases bl_total p.1 q.1 with c|c|c
  ·rw [syncM_a c]
   refine cons (ha.ok p (.head _)) (syncM_ord l (q::m) ha.tail hb) λx hx=>?_
   rcases syncM_keys l (q::m) x hx with ⟨z,hz,e⟩|⟨z,hz,e⟩
   ·rw [<-e];exact ha.head z hz
   ·rw [<-e]
    rcases List.mem_cons.1 hz with g|hz
    ·rw [g];exact c
    ·exact bl_trans c (hb.head z hz)
  ·have c1:Op.bytesLess p.1 q.1=false:=by rw[c];exact Bool.eq_false_iff.2 (bl_irrefl _)
   have c2:Op.bytesLess q.1 p.1=false:=by rw[c];exact Bool.eq_false_iff.2 (bl_irrefl _)
   rw[syncM_c c1 c2];refine cons (p:=(p.1,both p q)) ⟨(ha.ok p (.head _)).1,both_good (ha.ok p (.head _)).2 (hb.ok q (.head _)).2⟩ (syncM_ord l m ha.tail hb.tail) λx hx=>?_
   show BL p.1 x.1;rcases syncM_keys l m x hx with ⟨z,hz,e⟩|⟨z,hz,e⟩
   ·rw [<-e];exact ha.head z hz
   ·rw [<-e,c];exact hb.head z hz
  ·have c1:Op.bytesLess p.1 q.1=false:=Bool.eq_false_iff.2 λg=>bl_irrefl _ (bl_trans g c)
   rw[syncM_b c1 c];refine cons (hb.ok q (.head _)) (syncM_ord (p::l) m ha hb.tail) λx hx=>?_
   rcases syncM_keys (p::l) m x hx with ⟨z,hz,e⟩|⟨z,hz,e⟩
   ·rw [<-e]
    rcases List.mem_cons.1 hz with g|hz
    ·rw [g];exact c
    ·exact bl_trans c (ha.head z hz)
   ·rw [<-e];exact hb.head z hz
termination_by a b=>a.length+b.length
end Go.Pn.Dg
end
section
namespace Go.Pn.Dg
open Go Go.Pn Go.Pn.Bt Go.Pn.Jn
def putL:List Ent->Str->Cn.Cart->List Ent
 |[],k,c=>[(k,c)]
 |x::l,k,c=>if x.1=k then (k,c)::l else if Op.bytesLess x.1 k=true then x::putL l k c else (k,c)::x::l
theorem putL_get (l:List Ent)(k:Str)(c:Cn.Cart)(j:Str):get (putL l k c) j=if k=j then some c else get l j:=by
 induction l with
 |nil=>rw[putL,get_cons]
 |cons x l ih=>
  rw[putL]
  split
  ·rename_i e
   rw[get_cons,get_cons]
   by_cases q:k=j
   ·rw [if_pos q,if_pos q]
   ·rw [if_neg q,if_neg q,if_neg (by rw[e];exact q)]
  ·rename_i e
   split
   ·rw [get_cons,get_cons,ih]
    by_cases q:x.1=j
    ·rw [if_pos q,if_neg (by rw[<-q];exact λg=>e g.symm),if_pos q]
    ·rw [if_neg q,if_neg q]
   ·rw [get_cons]
theorem putL_keys (l:List Ent)(k:Str)(c:Cn.Cart):∀x∈putL l k c,x.1=k∨x∈l:=by
 induction l with
 |nil=>intro x hx;rw[putL] at hx;exact .inl (by rw[List.mem_singleton.1 hx])
 |cons y l ih=>
  intro x hx;rw[putL] at hx
  split at hx
  ·rcases List.mem_cons.1 hx with e|hx
   ·exact .inl (by rw[e])
   ·exact .inr (.tail _ hx)
  ·split at hx
   ·rcases List.mem_cons.1 hx with e|hx
    ·exact .inr (by rw[e];exact .head _)
    ·exact (ih x hx).imp id (.tail _)
   ·rcases List.mem_cons.1 hx with e|hx
    ·exact .inl (by rw[e])
    ·exact .inr hx
theorem putL_ord {l:List Ent}{k:Str}{c:Cn.Cart}(h:Ord l)(hk:okKey k=true)(hc:GoodC c):Ord (putL l k c):=by
 have cons:∀{p:Ent} {l:List Ent},okKey p.1=true∧GoodC p.2->Ord l->(∀x∈l,BL p.1 x.1)->Ord (p::l):=λhp hl hx=>
  ⟨λx hm=>(List.mem_cons.1 hm).elim (λe=>e ▸ hp) (hl.ok x),List.pairwise_cons.2 ⟨hx,hl.up⟩⟩
 induction l with
 |nil=>rw[putL];exact cons ⟨hk,hc⟩ Ord.nil (λx hx=>by cases hx)
 |cons x l ih=>
  rw[putL]
  split
  ·rename_i e
   exact cons ⟨hk,hc⟩ h.tail λy hy=>by show BL k y.1;rw[<-e];exact h.head y hy
  ·rename_i e
   split
   ·rename_i g
    refine cons (h.ok x (.head _)) (ih h.tail) λy hy=>?_
    rcases putL_keys l k c y hy with q|q
    ·rw [q];exact g
    ·exact h.head y q
   ·rename_i g
    have g2:BL k x.1:=by
     rcases bl_total x.1 k with q|q|q
     ·exact absurd q g
     ·exact absurd q e
     ·exact q
    refine cons ⟨hk,hc⟩ h λy hy=>?_
    show BL k y.1;rcases List.mem_cons.1 hy with q|q
    ·rw [q];exact g2
    ·exact bl_trans g2 (h.head y q)
theorem putL_at (c:Cn.Cart)(k:Str):∀(l:List Ent) (i:Nat),(Ob.keys l).Pairwise BL->Ob.At (Ob.keys l) k i->putL l k c=if k∈Ob.keys l then l.set i (k,c) else l.take i++(k,c)::l.drop i
 |[],i,_,h=>by
  have h0:i=0:=by have:=h.1;simpa[Ob.keys] using this
  subst h0;rw[putL,if_neg (by simp[Ob.keys])]
  rfl
 |x::l,i,hp,h=>by
  have hp2:(Ob.keys l).Pairwise BL:=(List.pairwise_cons.1 hp).2;have hkc:Ob.keys (x::l)=x.1::Ob.keys l:=rfl;rw[hkc];have hx:∀q∈Ob.keys l,BL x.1 q:=(List.pairwise_cons.1 hp).1
  by_cases e:x.1=k
  ·have h0:i=0:=by
    rcases Nat.eq_zero_or_pos i with q|q
    ·exact q
    ·have:=h.2.1 0 (by simp[Ob.keys]) q
     exact absurd (show BL k k by rw[<-e] at this ⊢;exact this) (bl_irrefl _)
   subst h0;rw[putL,if_pos e,if_pos (by rw[<-e];exact List.mem_cons_self)]
   rfl
  ·by_cases g:Op.bytesLess x.1 k=true
   ·have hpos:0<i:=by
     rcases Nat.eq_zero_or_pos i with q|q
     ·exact absurd g (h.2.2 0 (by simp[Ob.keys]) (by omega))
     ·exact q
    obtain ⟨i2,rfl⟩:∃j,i=j+1:=⟨i-1,by omega⟩
    have h2:Ob.At (Ob.keys l) k i2:=by
     refine ⟨by have:=h.1;simp[Ob.keys] at this ⊢;omega,λj hj hji=>?_,λj hj hij=>?_⟩
     ·exact h.2.1 (j+1) (by simp[Ob.keys] at hj ⊢;omega) (by omega)
     ·exact h.2.2 (j+1) (by simp[Ob.keys] at hj ⊢;omega) (by omega)
    rw[putL,if_neg e,if_pos g,putL_at c k l i2 hp2 h2]
    by_cases m:k∈Ob.keys l
    ·rw [if_pos m,if_pos (List.mem_cons_of_mem _ m),List.set_cons_succ]
    ·rw [if_neg m,if_neg (λq=>(List.mem_cons.1 q).elim (λr=>e r.symm) m),List.take_succ_cons,List.drop_succ_cons]
     rfl
   ·have h0:i=0:=by
     rcases Nat.eq_zero_or_pos i with q|q
     ·exact q
     ·exact absurd (h.2.1 0 (by simp[Ob.keys]) q) g
    subst h0;have hk:BL k x.1:=by
     rcases bl_total x.1 k with q|q|q
     ·exact absurd q g
     ·exact absurd q e
     ·exact q
    rw[putL,if_neg e,if_neg g,if_neg (λq=>(List.mem_cons.1 q).elim (λr=>e r.symm) (λr=>bl_irrefl _ (bl_trans hk (hx k r))))]
    rfl
end Go.Pn.Dg
end
section
namespace Go.Pn.Dg
open Go Go.Pn Go.Pn.Bt Go.Pn.Jn
def jC (a b:List Ent)(k:Str):Cn.Cart:=if k∈Ob.keys a∧k∈Ob.keys b then Jn.join (getC a k) (getC b k) else if k∈Ob.keys b then getC b k else getC a k
def puts (a b x:List Ent)(ks:List Str):List Ent:=ks.foldl (λx k=>putL x k (jC a b k)) x
theorem puts_take (a b x:List Ent)(ks:List Str){i:Nat}(h:i<ks.length):puts a b x (ks.take (i+1))=putL (puts a b x (ks.take i)) ks[i] (jC a b ks[i]):=by
 unfold puts;rw[List.take_succ_eq_append_getElem h,List.foldl_append]
 rfl
theorem puts_get (a b:List Ent)(j:Str):∀(ks:List Str) (x:List Ent),get (puts a b x ks) j=if j∈ks then some (jC a b j) else get x j
 |[],x=>by rw[if_neg (by simp)];rfl
 |k::ks,x=>by
  have ih:=puts_get a b j ks (putL x k (jC a b k));show get (puts a b (putL x k (jC a b k)) ks) j=_;rw[ih,putL_get]
  by_cases h1:j∈ks
  ·rw [if_pos h1,if_pos (List.mem_cons_of_mem _ h1)]
  ·rw [if_neg h1]
   by_cases h2:k=j
   ·subst h2
    rw[if_pos rfl,if_pos List.mem_cons_self]
   ·rw [if_neg h2,if_neg (λq=>(List.mem_cons.1 q).elim (λr=>h2 r.symm) h1)]
theorem mem_keys {l:List Ent}{k:Str}:k∈Ob.keys l↔∃x∈l,x.1=k:=List.mem_map
theorem get_keys {l:List Ent}{k:Str}:get l k=none↔k∉Ob.keys l:=by
 constructor
 ·intro h hk
  obtain ⟨x,hx,e⟩:=mem_keys.1 hk;unfold Bt.get at h;rw[Option.map_eq_none_iff,List.find?_eq_none] at h;exact h x hx (by simpa using e)
 ·intro h
  exact get_none λx hx e=>h (mem_keys.2 ⟨x,hx,e⟩)
theorem getC_of {l:List Ent}{k:Str}{c:Cn.Cart}(h:get l k=some c):getC l k=c:=by
 unfold Bt.get at h;unfold getC;cases hf:l.find? (λx=>decide (x.1=k)) with
 |none=>rw[hf] at h;cases h
 |some x=>rw[hf] at h;exact Option.some.inj h
theorem jC_a {a b:List Ent}{k:Str}{x:Cn.Cart}(h1:get a k=some x)(h2:get b k=none):jC a b k=x:=by
 unfold jC;rw[if_neg (λq=>get_keys.1 h2 q.2),if_neg (get_keys.1 h2),getC_of h1]
theorem jC_b {a b:List Ent}{k:Str}{y:Cn.Cart}(h1:get a k=none)(h2:get b k=some y):jC a b k=y:=by
 unfold jC;have hb:k∈Ob.keys b:=by
  by_cases q:k∈Ob.keys b
  ·exact q
  ·rw [get_keys.2 q] at h2;cases h2
 rw[if_neg (λq=>get_keys.1 h1 q.1),if_pos hb,getC_of h2]
theorem jC_ab {a b:List Ent}{k:Str}{x y:Cn.Cart}(h1:get a k=some x)(h2:get b k=some y):jC a b k=Jn.join x y:=by
 unfold jC;have ha:k∈Ob.keys a:=by
  by_cases q:k∈Ob.keys a
  ·exact q
  ·rw [get_keys.2 q] at h1;cases h1
 have hb:k∈Ob.keys b:=by
  by_cases q:k∈Ob.keys b
  ·exact q
  ·rw [get_keys.2 q] at h2;cases h2
 rw[if_pos ⟨ha,hb⟩,getC_of h1,getC_of h2]
def isD (k:Str):Option Cn.Cart->Option Cn.Cart->Prop
 |none,none=>False
 |none,some _=>True
 |some _,none=>True
 |some x,some y=>(leafOf (k,x)).2≠(leafOf (k,y)).2
theorem keysM_l (l:List Leaf):keysM [] l=l.map (·.1):=by rw[keysM]
theorem keysM_r (l:List Leaf):keysM l []=l.map (·.1):=by
 cases l with
 |nil=>rw[keysM]
 |cons x l=>rw[keysM]
theorem leaf_keys (l:List Ent):(l.map leafOf).map (·.1)=Ob.keys l:=by
 rw[List.map_map];rfl
theorem keysM_mem {a b:List Ent}(ha:Ord a)(hb:Ord b)(k:Str):k∈keysM (a.map leafOf) (b.map leafOf)↔isD k (get a k) (get b k):=by
 have key:∀(n:Nat) (a b:List Ent),a.length+b.length<=n->Ord a->Ord b->(k∈keysM (a.map leafOf) (b.map leafOf)↔isD k (get a k) (get b k)):=by
  have nilD:∀l:List Ent,k∈Ob.keys l↔isD k none (get l k):=λl=>by
   cases h:get l k with
   |none=>exact ⟨λq=>(get_keys.1 h q).elim,λq=>q.elim⟩
   |some c=>exact ⟨λ_=>trivial,λ_=>by
     by_cases q:k∈Ob.keys l
     ·exact q
     ·rw [get_keys.2 q] at h;cases h⟩
  have nilD2:∀l:List Ent,k∈Ob.keys l↔isD k (get l k) none:=λl=>by
   rw[nilD l];cases get l k<;>exact Iff.rfl
  intro n
  induction n with
  |zero=>
   intro a b h _ _;have hx:a=[]:=List.eq_nil_of_length_eq_zero (by omega);subst hx;rw[List.map_nil,keysM_l,leaf_keys];exact nilD b
  |succ n ih=>
   intro a b h ha hb;cases a with
   |nil=>rw[List.map_nil,keysM_l,leaf_keys];exact nilD b
   |cons p x=>
    cases b with
    |nil=>rw[List.map_nil,keysM_r,leaf_keys];exact nilD2 (p::x)
    |cons q y=>
     simp only[List.length_cons] at h;rw[List.map_cons,List.map_cons];rcases bl_total p.1 q.1 with c|c|c
     ·rw [keysM_a (x:=leafOf p) (y:=leafOf q) c,List.singleton_append,List.mem_cons,<-List.map_cons,ih x (q::y) (by simp;omega) ha.tail hb,get_cons p]
      by_cases e:p.1=k
      ·have:get (q::y) k=none:=get_less λz hz=>by
        rw[<-e];rcases List.mem_cons.1 hz with g|hz
        ·rw [g];exact c
        ·exact bl_trans c (hb.head z hz)
       rw[if_pos e,this];exact ⟨λ_=>trivial,λ_=>.inl e.symm⟩
      ·rw [if_neg e]
       exact ⟨λg=>g.elim (λg=>(e g.symm).elim) id,.inr⟩
     ·have c1:Op.bytesLess p.1 q.1=false:=by rw[c];exact Bool.eq_false_iff.2 (bl_irrefl _)
      have c2:Op.bytesLess q.1 p.1=false:=by rw[c];exact Bool.eq_false_iff.2 (bl_irrefl _)
      have ihk:=ih x y (by omega) ha.tail hb.tail;have hkx:∀e:p.1=k,get x k=none:=λe=>get_less λz hz=>by rw[<-e];exact ha.head z hz
      have hky:∀e:p.1=k,get y k=none:=λe=>get_less λz hz=>by rw[<-e,c];exact hb.head z hz
      have hno:p.1=k->k∉keysM (x.map leafOf) (y.map leafOf):=λe g=>by
       rw[ihk,hkx e,hky e] at g;exact g
      by_cases s:(leafOf p).2=(leafOf q).2
      ·rw [keysM_d (x:=leafOf p) (y:=leafOf q) c1 c2 s,List.nil_append,get_cons p,get_cons q,<-c]
       by_cases e:p.1=k
       ·rw [if_pos e,if_pos e]
        have e1:(k,p.2)=p:=Prod.ext e.symm rfl;have e2:(k,q.2)=q:=Prod.ext (e.symm.trans c) rfl;exact ⟨λg=>(hno e g).elim,λg=>(g (by rw[e1,e2];exact s)).elim⟩
       ·rw [if_neg e,if_neg e];exact ihk
      ·rw [keysM_c (x:=leafOf p) (y:=leafOf q) c1 c2 s,List.singleton_append,List.mem_cons,get_cons p,get_cons q,<-c]
       by_cases e:p.1=k
       ·rw [if_pos e,if_pos e]
        have e1:(k,p.2)=p:=Prod.ext e.symm rfl;have e2:(k,q.2)=q:=Prod.ext (e.symm.trans c) rfl;exact ⟨λ_=>by show (leafOf (k,p.2)).2≠(leafOf (k,q.2)).2;rw[e1,e2];exact s,λ_=>.inl e.symm⟩
       ·rw [if_neg e,if_neg e]
        exact ⟨λg=>g.elim (λg=>(e g.symm).elim) ihk.1,λg=>.inr (ihk.2 g)⟩
     ·have c1:Op.bytesLess p.1 q.1=false:=Bool.eq_false_iff.2 λg=>bl_irrefl _ (bl_trans g c)
      rw[keysM_b (x:=leafOf p) (y:=leafOf q) c1 c,List.singleton_append,List.mem_cons,<-List.map_cons,ih (p::x) y (by simp;omega) ha hb.tail,get_cons q]
      by_cases e:q.1=k
      ·have:get (p::x) k=none:=get_less λz hz=>by
        rw[<-e];rcases List.mem_cons.1 hz with g|hz
        ·rw [g];exact c
        ·exact bl_trans c (ha.head z hz)
       rw[if_pos e,this];exact ⟨λ_=>trivial,λ_=>.inl e.symm⟩
      ·rw [if_neg e]
       exact ⟨λg=>g.elim (λg=>(e g.symm).elim) id,.inr⟩
 exact key _ a b (Nat.le_refl _) ha hb
theorem jC_good {a b:List Ent}(ha:Ord a)(hb:Ord b){k:Str}(hk:k∈Ob.keys a∨k∈Ob.keys b):okKey k=true∧GoodC (jC a b k):=by
 have ok:∀{l:List Ent},Ord l->k∈Ob.keys l->okKey k=true:=λhl h=>by
  obtain ⟨x,hx,e⟩:=mem_keys.1 h;rw[<-e];exact (hl.ok x hx).1
 refine ⟨hk.elim (ok ha) (ok hb),?_⟩;cases h1:get a k with
 |none=>
  cases h2:get b k with
  |none=>exact (hk.elim (get_keys.1 h1) (get_keys.1 h2)).elim
  |some y=>rw[jC_b h1 h2];exact get_good hb h2
 |some x=>
  cases h2:get b k with
  |none=>rw[jC_a h1 h2];exact get_good ha h1
  |some y=>rw[jC_ab h1 h2];exact join_good (get_good ha h1) (get_good hb h2)
theorem keysM_in {a b:List Ent}(ha:Ord a)(hb:Ord b){k:Str}(h:k∈keysM (a.map leafOf) (b.map leafOf)):k∈Ob.keys a∨k∈Ob.keys b:=by
 rw[keysM_mem ha hb] at h
 by_cases q:k∈Ob.keys a
 ·exact .inl q
 ·rw [get_keys.2 q] at h
  by_cases q2:k∈Ob.keys b
  ·exact .inr q2
  ·rw [get_keys.2 q2] at h;exact h.elim
theorem puts_ord {a b:List Ent}(ha:Ord a)(hb:Ord b):∀(ks:List Str) (x:List Ent),(∀k∈ks,k∈Ob.keys a∨k∈Ob.keys b)->Ord x->Ord (puts a b x ks)
 |[],_,_,hx=>hx
 |k::ks,_,hk,hx=>puts_ord ha hb ks _ (λj hj=>hk j (.tail _ hj)) (putL_ord hx (jC_good ha hb (hk k (.head _))).1 (jC_good ha hb (hk k (.head _))).2)
theorem puts_a {a b:List Ent}(ha:Ord a)(hb:Ord b):puts a b a (keysM (a.map leafOf) (b.map leafOf))=syncM a b:=by
 refine ord_ext (puts_ord ha hb _ _ (λk hk=>keysM_in ha hb hk) ha) (syncM_ord a b ha hb) λk=>?_
 rw[puts_get,syncM_get ha hb];have hm:=keysM_mem ha hb k;cases h1:get a k with
 |none=>
  cases h2:get b k with
  |none=>rw[h1,h2] at hm;rw[if_neg (λq=>hm.1 q)];rfl
  |some y=>rw[h1,h2] at hm;rw[if_pos (hm.2 trivial),jC_b h1 h2];rfl
 |some x=>
  cases h2:get b k with
  |none=>rw[h1,h2] at hm;rw[if_pos (hm.2 trivial),jC_a h1 h2];rfl
  |some y=>
   rw[h1,h2] at hm;show _=some (both (k,x) (k,y));unfold both
   by_cases s:(leafOf (k,x)).2=(leafOf (k,y)).2
   ·rw [if_neg (λq=>hm.1 q s),if_pos s]
   ·rw [if_pos (hm.2 s),if_neg s,jC_ab h1 h2]
theorem puts_b {a b:List Ent}(ha:Ord a)(hb:Ord b):puts a b b (keysM (a.map leafOf) (b.map leafOf))=syncM b a:=by
 refine ord_ext (puts_ord ha hb _ _ (λk hk=>keysM_in ha hb hk) hb) (syncM_ord b a hb ha) λk=>?_
 rw[puts_get,syncM_get hb ha];have hm:=keysM_mem ha hb k;cases h1:get a k with
 |none=>
  cases h2:get b k with
  |none=>rw[h1,h2] at hm;rw[if_neg (λq=>hm.1 q)];rfl
  |some y=>rw[h1,h2] at hm;rw[if_pos (hm.2 trivial),jC_b h1 h2];rfl
 |some x=>
  cases h2:get b k with
  |none=>rw[h1,h2] at hm;rw[if_pos (hm.2 trivial),jC_a h1 h2];rfl
  |some y=>
   rw[h1,h2] at hm;show _=some (both (k,y) (k,x));unfold both
   by_cases s:(leafOf (k,x)).2=(leafOf (k,y)).2
   ·rw [if_neg (λq=>hm.1 q s),if_pos s.symm]
   ·rw [if_pos (hm.2 s),if_neg (λq=>s q.symm),jC_ab h1 h2]
    exact congrArg some (join_comm (get_good ha h1) (get_good hb h2))
theorem putL_len (l:List Ent)(k:Str)(c:Cn.Cart):(putL l k c).length<=l.length+1:=by
 induction l with
 |nil=>rw[putL];simp
 |cons x l ih=>
  rw[putL]
  split
  ·simp
  ·split
   ·simp only[List.length_cons];omega
   ·simp
theorem puts_len (a b:List Ent):∀(ks:List Str) (x:List Ent),(puts a b x ks).length<=x.length+ks.length
 |[],x=>Nat.le_refl _
 |k::ks,x=>by
  have h1:=puts_len a b ks (putL x k (jC a b k));have h2:=putL_len x k (jC a b k);show (puts a b (putL x k (jC a b k)) ks).length<=_;simp only[List.length_cons]
  omega
theorem keysM_len:∀(l m:List Leaf),(keysM l m).length<=l.length+m.length
 |[],m=>by rw[keysM_l];simp
 |x::l,[]=>by rw[keysM_r];simp
 |x::l,y::m=>by
  rw[keysM]
  split
  ·have:=keysM_len l (y::m)
   simp only[List.length_cons] at*
   omega
  ·split
   ·have:=keysM_len (x::l) m
    simp only[List.length_cons] at*
    omega
   ·have:=keysM_len l m
    simp only[List.length_append,List.length_cons] at*
    split<;>simp<;>omega
termination_by l m=>l.length+m.length
end Go.Pn.Dg
end
section
namespace Go.Pn.Dg
open Go Go.Pn Go.Pn.Bt Go.Pn.Jn
theorem dig_valid {l:List Ent}(h:check l=0):valid (dig l)=true:=by
 obtain ⟨h1,h2⟩:=check_zero h;have ho:=ord_iff.1 h2;have h3:okLs (l.map leafOf)=true:=okLs_yes (λi hi=>by
  rw[List.getElem_map];exact (ho.ok _ (List.getElem_mem _)).1) (λi hi=>by
 rw[List.getElem_map,List.getElem_map];rw[List.length_map] at hi;exact (List.pairwise_iff_getElem.1 ho.up) i (i+1) (by omega) hi (by omega))
 rw[<-valid_eq (d:=dig l) (by show (l.map leafOf).length<=1024;rw[List.length_map];exact h1) h3];exact decide_eq_true rfl
theorem dig_err {a b:List Ent}(ha:check a=0)(hb:check b=0):err (dig a) (dig b)=0:=err_yes (dig_valid ha) (dig_valid hb)
theorem dig_keys {a b:List Ent}(ha:check a=0)(hb:check b=0):keys (dig a) (dig b)=keysM (a.map leafOf) (b.map leafOf):=keys_yes (dig_valid ha) (dig_valid hb)
def serr (a b:List Ent):Int:=if 1024<a.length∨1024<b.length then 5 else if ¬check a=0∨¬check b=0 then 2 else if 1024<(syncM a b).length then 5 else 0
def syn (a b c:List Ent)(e:Int):List Ent:=if e=0 then syncM a b else c.take 0
theorem syn_yes (a b c:List Ent):syn a b c 0=syncM a b:=rfl
theorem serr_long {a b:List Ent}(h:1024<a.length∨1024<b.length):serr a b=5:=if_pos h
theorem serr_bad {a b:List Ent}(h:¬(1024<a.length∨1024<b.length))(h2:¬check a=0∨¬check b=0):serr a b=2:=by
 unfold serr;rw[if_neg h,if_pos h2]
theorem serr_full {a b:List Ent}(ha:check a=0)(hb:check b=0)(h:1024<(syncM a b).length):serr a b=5:=by
 have h1:=(check_zero ha).1;have h2:=(check_zero hb).1;unfold serr;rw[if_neg (by omega),if_neg (λq=>q.elim (λq=>q ha) (λq=>q hb)),if_pos h]
theorem serr_ok {a b:List Ent}(ha:check a=0)(hb:check b=0)(h:¬1024<(syncM a b).length):serr a b=0:=by
 have h1:=(check_zero ha).1;have h2:=(check_zero hb).1;unfold serr;rw[if_neg (by omega),if_neg (λq=>q.elim (λq=>q ha) (λq=>q hb)),if_neg h]
theorem check_ord {l:List Ent}(h:check l=0):Ord l:=ord_iff.1 (check_zero h).2
theorem getC_in {l:List Ent}{k:Str}(h:k∈Ob.keys l):(k,getC l k)∈l:=by
 cases hg:get l k with
 |none=>exact (get_keys.1 hg h).elim
 |some c=>rw[getC_of hg];exact mem_get hg
theorem getC_big {l:List Ent}(h:Big l)(k:Str):Cn.big (getC l k):=by
 by_cases hk:k∈Ob.keys l
 ·exact (h _ (getC_in hk)).2
 ·rw [getC_no hk]
  exact ⟨by decide,by decide,by decide,λx hx=>by cases hx⟩
theorem jC_big {a b:List Ent}(ha:Big a)(hb:Big b)(ma:Mid 20000 a)(mb:Mid 20000 b)(oa:Ord a)(ob:Ord b)(k:Str):Cn.big (jC a b k):=by
 unfold jC
 split
 ·rename_i h
  exact join_big (x:=(k,getC a k)) (y:=(k,getC b k)) (ma _ (getC_in h.1)) (mb _ (getC_in h.2)) (by decide) (oa.ok _ (getC_in h.1)).2 (ob.ok _ (getC_in h.2)).2
 ·split
  ·exact getC_big hb k
  ·exact getC_big ha k
theorem jC_and {a b:List Ent}{k:Str}(h:k∈Ob.keys a∧k∈Ob.keys b):jC a b k=Jn.join (getC a k) (getC b k):=if_pos h
theorem jC_also {a b:List Ent}{k:Str}(h:¬(k∈Ob.keys a∧k∈Ob.keys b))(h2:k∈Ob.keys b):jC a b k=getC b k:=by
 unfold jC;rw[if_neg h,if_pos h2]
theorem jC_else {a b:List Ent}{k:Str}(h:¬(k∈Ob.keys a∧k∈Ob.keys b))(h2:¬k∈Ob.keys b):jC a b k=getC a k:=by
 unfold jC;rw[if_neg h,if_neg h2]
theorem puts_at {a b x:List Ent}{ks:List Str}{i:Nat}(h:i<ks.length){k:Str}(hk:k=ks[i]):puts a b x (ks.take (i+1))=putL (puts a b x (ks.take i)) k (jC a b k):=by
 subst hk;exact puts_take a b x ks h
theorem puts_take_ord {a b x:List Ent}(oa:Ord a)(ob:Ord b)(ox:Ord x)(i:Nat):Ord (puts a b x ((keysM (a.map leafOf) (b.map leafOf)).take i)):=
 puts_ord oa ob _ x (λ_ hk=>keysM_in oa ob (List.mem_of_mem_take hk)) ox
theorem puts_take_len {a b x:List Ent}(i:Nat):(puts a b x ((keysM (a.map leafOf) (b.map leafOf)).take i)).length<=x.length+(a.length+b.length):=by
 have h1:=puts_len a b ((keysM (a.map leafOf) (b.map leafOf)).take i) x;have h2:=keysM_len (a.map leafOf) (b.map leafOf);rw[List.length_take] at h1;rw[List.length_map,List.length_map] at h2
 omega
end Go.Pn.Dg
end
section
namespace Go.Pn.Dg
open Go Go.Pn Go.Pn.Bt Go.Pn.Jn
def fa (l m:List Ent)(i k:Nat):Bool:=decide (m.length<=k)||(decide (i<l.length)&&Op.bytesLess (l.getD i ([],noC)).1 (m.getD k ([],noC)).1)
section
variable {l m:List Ent}{i k:Nat}
end
theorem dig_len (l:List Ent):(dig l).ls.length=l.length:=List.length_map _
end Go.Pn.Dg
end
section
namespace Go.Pn.Dg
open Go Go.Pn Go.Pn.Bt Go.Pn.Jn
def ents (ks:List Str):List Ent:=ks.map λk=>(k,cart0)
def raws (ks:List Str):List EntR:=ks.map ent0
theorem ents_big {ks:List Str}(h:∀k∈ks,k.length<=1000000):Big (ents ks):=λx hx=>by
 obtain ⟨k,hk,rfl⟩:=List.mem_map.1 hx;exact ⟨h k hk,by show ([]:List Dt.Dot).length<=_;decide,by show ([]:List Dt.Dot).length<=_;decide,by show ([]:List ItemT).length<=_;decide,λy hy=>by cases hy⟩
theorem ents_mid {ks:List Str}{n:Nat}:Mid n (ents ks):=λx hx=>by
 obtain ⟨k,hk,rfl⟩:=List.mem_map.1 hx;exact ⟨Nat.zero_le _,Nat.zero_le _,Nat.zero_le _,λy hy=>by cases hy⟩
theorem ents_at {w:World}{F:Nat->Prop}(ks:List Str):EntL w F (raws ks) (ents ks):=EntL.zero
abbrev kK:Str:=[107]
abbrev kM:Str:=[109]
def exA:List Ent:=ents [kK,kM]
def exB:List Ent:=ents [kK]
def exC:List Ent:=ents [kM,kK]
def exD:List Ent:=ents [kK,kK]
theorem ex_a:check exA=0:=by decide+kernel
theorem ex_b:check exB=0:=by decide+kernel
theorem ex_c:check exC=2:=by decide+kernel
theorem ex_d:check exD=2:=by decide+kernel
theorem ex_keys:keys (dig exA) (dig exB)=[kM]:=by rw[dig_keys ex_a ex_b];decide+kernel
theorem ex_keys2:keys (dig exA) (dig exA)=[]:=by rw[dig_keys ex_a ex_a];decide+kernel
theorem ex_differ:differ (dig exA) (dig exB)=[(bucket kM:Int)]:=by rw[differ_yes (dig_valid ex_a) (dig_valid ex_b)];decide+kernel
theorem ex_sync:syncM exA exB=exA:=by decide+kernel
theorem ex_sync2:syncM exB exA=exA:=by decide+kernel
theorem ex_serr:serr exA exB=0:=serr_ok ex_a ex_b (by rw[ex_sync];decide)
theorem ex_of (l:List Ent)(h:check l=2):of l=zero:=of_bad (by rw[h];decide)
end Go.Pn.Dg
end
section
namespace Go.Pn
open Go.ChangeShapes Go.WideShapes Go.ChangeAt Go.RowKit
section
variable {H:Type}{enc:TypeId×Value->H}{P:Program}{W:World}{t e:TypeId}
theorem trod_fieldC {base:Nat}{sp:Nat->Bool}{held:Bool}{fuel:Nat}{cs:List Value}{x:DataW H×List MemPlace}{fs:Array Field}{i:Nat}{f:Field}(ht:P.underlying t=some (.struct fs))(h:DataW.trod enc P W base sp held fuel t cs=some x)(hi:fs[i]? =some f)(hc:P.cellsOf f.type=1):
 ∃n y,DataW.trod enc P W base sp held n f.type ((cs.drop f.offset).take 1)=some y:=by
 obtain ⟨xs,n,_,_,_,hl,hf⟩:=DataW.trod_struct ht h;have h1:=hf i f hi;rw[hc] at h1;have h2:i<xs.length:=by rw[hl];exact (Array.getElem?_eq_some_iff.1 hi).1
 rw[List.getElem?_eq_getElem h2] at h1;exact ⟨n,_,h1⟩
theorem take_atC {cs:List Value}{i:Nat}{a b:Value}(h:(cs.drop i).take 1=[a])(h2:cs[i]? =some b):b=a:=by
 obtain ⟨h3,rfl⟩:=List.getElem?_eq_some_iff.1 h2;rw[List.drop_eq_getElem_cons h3,List.take_succ_cons,List.take_zero] at h
 simpa using h
theorem row_u64 {l:List (String×DataW Unit)}(h:laidMet P l W){name:String}{zs:List (BitVec 64)}{g n:Nat}{dd:DataW Unit}(hm:(name,dd)∈l)(hd:dd=Lib.tabData .u64 (zs.map λx=>(x.toNat:Int)))
 (hg:P.globalNamed name=some g)(hty:(P.globals[g]?).map (·.type)=some t)(ht:P.underlying t=some (.array n e))(he:P.underlying e=some (.int .u64))(hce:P.cellsOf e=1)(hct:P.cellsOf t=n):
 Row u64E W (λk=>k=g) g 0 zs:=by
 obtain ⟨g',t',cs,fuel,p,h1,h2,h3,h4⟩:=laid_mem h hm;obtain rfl:=Option.some.inj (hg.symm.trans h1);obtain rfl:=Option.some.inj (hty.symm.trans h2);rw[hd] at h4;have h5:=Lib.cells_of_tab ht he hce hct h4;unfold World.var? at h3;rw[hg] at h3;simp only[Option.bind_some] at h3
 split at h3
 ·rename_i c ty fr hh
  cases h3;refine ⟨cs,ty,fr,rfl,hh,?_,λi hi=>?_⟩
  ·show 0+zs.length*1<=cs.size
   have:=congrArg List.length h5
   simp at this
   omega
  ·show (cs.toList.drop (0+i*1)).take 1=[Value.int .u64 (zs[i].toNat:Int)]
   rw[h5,Nat.zero_add,Nat.mul_one,List.drop_eq_getElem_cons (by simpa using hi),List.take_succ_cons,List.take_zero]
   simp
 ·cases h3
theorem chg_at {base:Nat}{v:Value}{d:DataW H}{p:List MemPlace}{f0 f1 f2 f3:Field}(ht:P.underlying t=some (.struct #[f0,f1,f2,f3]))(u0:P.underlying f0.type=some (.int .i64))(u1:P.underlying f1.type=some (.int .i64))(u2:P.underlying f2.type=some (.int .u64))(u3:P.underlying f3.type=some .bool)
 (c0:P.cellsOf f0.type=1)(c1:P.cellsOf f1.type=1)(c2:P.cellsOf f2.type=1)(c3:P.cellsOf f3.type=1)(o0:f0.offset=0)(o1:f1.offset=1)(o2:f2.offset=2)(o3:f3.offset=3)(hct:P.cellsOf t=4)
 (hval:Value.okWide P W .any base t v)(h:DataW.Trod enc P W 0 (λ_=>true) true t v d p):
 ∃c:Dg.Chg,v=.agg #[.int .i64 c.what,.int .i64 c.leaf,.int .u64 (c.sum.toNat:Int),.bool c.made]:=by
 obtain ⟨⟨l⟩,rfl,hs⟩:=okWide_struct ht hval;rw[hct] at hs;obtain ⟨fuel,hf⟩:=h;simp only[Value.cells] at hf;obtain ⟨n0,y0,g0⟩:=trod_fieldC ht hf (i:=0) (f:=f0) rfl c0;obtain ⟨n1,y1,g1⟩:=trod_fieldC ht hf (i:=1) (f:=f1) rfl c1;obtain ⟨n2,y2,g2⟩:=trod_fieldC ht hf (i:=2) (f:=f2) rfl c2;obtain ⟨n3,y3,g3⟩:=trod_fieldC ht hf (i:=3) (f:=f3) rfl c3;rw[o0] at g0;rw[o1] at g1;rw[o2] at g2;rw[o3] at g3;obtain ⟨z0,k0,_,_⟩:=DataW.trod_int u0 g0;obtain ⟨z1,k1,_,_⟩:=DataW.trod_int u1 g1;obtain ⟨z2,k2,_,w2⟩:=DataW.trod_int u2 g2;obtain ⟨b3,k3,_⟩:=DataW.trod_bool u3 g3;have hs2:l.length=4:=hs
 match l,hs2 with
 |[a0,a1,a2,a3],_=>
  obtain rfl:=take_atC k0 (b:=a0) rfl;obtain rfl:=take_atC k1 (b:=a1) rfl;obtain rfl:=take_atC k2 (b:=a2) rfl;obtain rfl:=take_atC k3 (b:=a3) rfl;simp only[Lit.wf,Bool.and_eq_true,decide_eq_true_eq] at w2;have e1:IntKind.u64.min=0:=rfl;have e2:IntKind.u64.max=18446744073709551615:=rfl;refine ⟨⟨z0,z1,BitVec.ofInt 64 z2,b3⟩,?_⟩;have e3:((BitVec.ofInt 64 z2).toNat:Int)=z2:=by
   rw[BitVec.toNat_ofInt]
   omega
  show Value.agg #[_,_,_,_]=Value.agg #[_,_,.int .u64 ((BitVec.ofInt 64 z2).toNat:Int),_];rw[e3]
end
end Go.Pn
end
