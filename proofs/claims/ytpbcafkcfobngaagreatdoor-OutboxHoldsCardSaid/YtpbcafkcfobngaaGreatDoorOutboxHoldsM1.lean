/-
 Where an appended row lies; items and their marks in memory; marks compared. No condition beyond what each rule asks.
-/
import Derived.WalkKit
import Derived.WalkSpells
import Derived.WalkLawsBesides
import Derived.Laws.AppendOwnNone
import Derived.Great.BuildSlice
import Derived.OrdersHeld
import Derived.Laws.Externs
import Derived.Laws.Cells
import Derived.Laws.Tables
import Derived.Laws.StructEq
import Derived.Deep.Draws
import Derived.Sort.Grow
import Derived.Lib.IndexMore
import Derived.Lib.TrimByte
import Derived.Shelf.SlSortCmp.WholeK
import Derived.Maps.RangeRun
import Derived.MapKept
import Derived.ProofKit
import Derived.OpenShut
import Derived.WideKeyArgs
import Derived.LaidLaws
import Derived.Deep.DeepHandedRow
import Derived.Deep.DeepWitnessRowRef
import Derived.Lib.LaidTab
import Derived.Deep.Slices
import Derived.Shelf.SlSortCmp.Whole1
import Derived.Lib.AppendZeros
import Derived.Lib.AppendStr
import Derived.Defers
import Derived.Recover
import Derived.RangeFuncLeaves
import Derived.RangeFuncSeq
import Derived.Lib.Bytealg
import Derived.Scope
import Derived.Test.YtpbcafkcfobngaaGreatDoorOutboxM6
section
namespace Go.Pn
open Go.RowKit
section
variable {α:Type} {G:Flat α} {w w':World} {F:Nat→Prop} {v v' y:Value} {xs ys:List α} {B:Nat} {ty:TypeId}
end
section
variable {P:Program} {n:Nat} {ops rest:List Oper} {N:Val→World→Prop} {Z:List PanicEntry→World→Prop} {f:Val} {w:World}
 {d:Nat} {x y:Operand} {t t' ty tr e:TypeId} {pos:String} {after:Array Edge} {α:Type} {G:Flat α} {F:Nat→Prop}
end
section
variable {P:Program} {n:Nat} {ops rest:List Oper} {N:Val→World→Prop} {Z:List PanicEntry→World→Prop} {f:Val} {w:World}
 {d:Nat} {x:Operand} {t tr:TypeId} {pos:String} {after:Array Edge}
theorem O.loadMarks {F:Nat→Prop} {a:Addr} {z:ItemT} (hag:∀w,(isAgg t).run P w=.ok false w) (hx:ev n f x=.pointer (some (a.add 1))) (ha:At itemE w F a z)
 (h:∀v,Sl markF.enc w F v z.2→O P n ops rest N Z (upd f d v) w):O P n ops (ZO d (.load t x) tr pos after::rest) N Z f w:=
 O.loadAtC hag (by decide) hx ha λcs u hr hu=>by
  obtain ⟨v,rfl,hm⟩:=hr;cases hu;exact h _ hm
end
section
variable {P:Program} {n:Nat} {ops rest:List Oper} {N:Val→World→Prop} {Z:List PanicEntry→World→Prop} {f:Val} {w:World}
 {d:Nat} {x y:Operand} {t t' tr:TypeId} {pos:String} {after:Array Edge}
end
section
variable {P:Program} {n:Nat} {ops rest:List Oper} {N:Val→World→Prop} {Z:List PanicEntry→World→Prop} {f:Val} {w:World}
 {d:Nat} {x y:Operand} {t t' tr:TypeId} {pos:String} {after:Array Edge}
end
end Go.Pn
end
section
namespace Go.Pn.Cn
open Go Go.Pn
section
variable {α:Type} {p:α→Bool} {l:List α}
end
section
variable {α:Type} {r:α→α→Bool}
end
theorem smallI_yes {x:Item} (h:x.2.length≤20) (k:x.1.length≤100):smallI x=true:=by unfold smallI;rw[decide_eq_true h,decide_eq_true k];rfl
theorem smallI_no {x:Item} (h:20<x.2.length∨100<x.1.length):smallI x=false:=by
 unfold smallI;rcases h with h|h
 ·rw [decide_eq_false (by omega)];rfl
 ·rw [decide_eq_false (p:=x.1.length≤100) (by omega),Bool.and_false]
theorem small_of {a:Cart} (h:a.2.length≤20→∀i,∀hi:i<a.2.length,smallI a.2[i]=true):decide ((((a.1.1.length:Nat):Int)≤40∧((a.1.2.length:Nat):Int)≤40)∧((a.2.length:Nat):Int)≤20)=small a:=by
 unfold small
 by_cases hs:(a.1.1.length≤40∧a.1.2.length≤40)∧a.2.length≤20
 ·rw [decide_eq_true hs,all_yes (h hs.2),decide_eq_true (by omega)]
  rfl
 ·rw [decide_eq_false hs,decide_eq_false (by omega)]
  rfl
end Go.Pn.Cn
end
section
namespace Go.Pn.Jn
open Go Go.Pn Go.Pn.Cn
theorem ml_trans {a b c:Mark} (h:ML a b) (k:ML b c):ML a c:=by unfold ML at*;omega
section
variable {α:Type} [DecidableEq α]
end
end Go.Pn.Jn
end
section
namespace Go.Pn.Jn
open Go Go.Pn Go.Pn.Cn
theorem cmp_ext {x y:Ctx} (hx:Cmp x) (hy:Cmp y) (h:∀d,ctxHas x d=true↔ctxHas y d=true):x=y:=by
 have key:∀{x y:Ctx},Cmp x→Cmp y→(∀d,ctxHas x d=true↔ctxHas y d=true)→∀r,get y.1 r≤get x.1 r:=by
  intro x y hx hy h r
  apply Classical.byContradiction
  intro hn;have h0:=Vc.get_ge hx.ok r;have h1:=get_le hy.ok r;have h2:=h1.2 (by omega);have hv:Dt.Valid (r,get x.1 r+1):=by unfold Dt.Valid;dsimp only;omega
  have hh:=(h (r,get x.1 r+1)).2 (has_iff.2 ⟨hv,.inl (by dsimp only;omega)⟩);rcases (has_iff.1 hh).2 with q|q
  ·dsimp only at q;omega
  ·have:=hx.far _ q
   dsimp only at this
   omega
 have e1:x.1=y.1:=Vc.ext hx.ok hy.ok λr=>Int.le_antisymm (key hy hx (λd=>(h d).symm) r) (key hx hy h r)
 have sub:∀{x y:Ctx},Cmp x→x.1=y.1→(∀d,ctxHas x d=true↔ctxHas y d=true)→∀d∈x.2,d∈y.2:=by
  intro x y hx e h d hd;have hh:=(h d).1 (has_iff.2 ⟨hx.va d hd,.inr hd⟩);rcases (has_iff.1 hh).2 with q|q
  ·have:=hx.far d hd
   rw[e] at this
   omega
  ·exact q
 have e2:x.2=y.2:=Dt.sset_ext hx.st hy.st λd=>⟨sub hx e1 h d,sub hy e1.symm (λd=>(h d).symm) d⟩
 exact Prod.ext e1 e2
end Go.Pn.Jn
end
section
namespace Go.Pn.Jn
open Go Go.Pn Go.Pn.Cn
theorem item_ext {l l':List Mark} (h:Dt.Sset (mdots l)) (h':Dt.Sset (mdots l')) (e:∀m,m∈l↔m∈l'):l=l':=
 pw_ext (R:=DL) dl_irrefl dl_trans ((List.pairwise_map (f:=λm:Mark=>m.1) (R:=Dt.Less)).1 h) ((List.pairwise_map (f:=λm:Mark=>m.1) (R:=Dt.Less)).1 h') e
theorem good_ext {a b:Cart} (ha:GoodC a) (hb:GoodC b) (h1:∀d,ctxHas a.1 d=true↔ctxHas b.1 d=true) (h2:∀s m,In a.2 s m↔In b.2 s m):a=b:=by
 refine Prod.ext (cmp_ext ha.cx hb.cx h1) ?_;have key:∀{a b:Cart},GoodC a→GoodC b→(∀s m,In a.2 s m↔In b.2 s m)→∀x∈a.2,x∈b.2:=by
  intro a b ha hb h x hx;obtain ⟨m,hm⟩:=List.exists_mem_of_ne_nil x.2 (ha.ok x hx).2.1;obtain ⟨y,hy,e,_⟩:=(h x.1 m).1 ⟨x,hx,rfl,hm⟩;have e2:y.2=x.2:=by
   refine item_ext (hb.ok y hy).2.2.1 (ha.ok x hx).2.2.1 λm=>?_
   have once:∀{c:Cart},GoodC c→∀z∈c.2,∀z'∈c.2,z.1=z'.1→z=z':=by
    intro c hc z hz z' hz' q;rcases pw_two hc.nm hz hz' with k|k|k
    ·exact k
    ·rw [q] at k;exact absurd k (bl_irrefl _)
    ·rw [q] at k;exact absurd k (bl_irrefl _)
   constructor
   ·intro hm
    obtain ⟨z,hz,q,hz2⟩:=(h y.1 m).2 ⟨y,hy,rfl,hm⟩;rw[once ha x hx z hz (by rw[q,e])];exact hz2
   ·intro hm
    obtain ⟨z,hz,q,hz2⟩:=(h x.1 m).1 ⟨x,hx,rfl,hm⟩;rw[once hb y hy z hz (by rw[q,e])];exact hz2
  have:y=x:=Prod.ext e e2;exact this ▸ hy
 exact pw_ext (R:=λa b:Item=>BL a.1 b.1) (λa=>bl_irrefl a.1) (λh k=>bl_trans h k) ha.nm hb.nm λx=>⟨key ha hb h2 x,key hb ha (λs m=>(h2 s m).symm) x⟩
theorem join_comm {a b:Cart} (ha:GoodC a) (hb:GoodC b):join a b=join b a:=by
 refine good_ext (join_good ha hb) (join_good hb ha) (λd=>?_) λs m=>?_
 ·rw [join_has ha hb,join_has hb ha]
  exact or_comm
 ·rw [join_in ha hb,join_in hb ha]
  unfold JIn;exact or_comm
theorem join_self {a:Cart} (ha:GoodC a):join a a=a:=by
 refine good_ext (join_good ha ha) ha (λd=>?_) λs m=>?_
 ·rw [join_has ha ha]
  exact or_self_iff
 ·rw [join_in ha ha]
  unfold JIn;rw[or_self_iff];exact ⟨λh=>h.1,λh=>⟨h,.inr ⟨m,h,rfl,ml_irrefl m⟩⟩⟩
theorem join_out {a b:Cart} (ha:GoodC a) (hb:GoodC b) {s:Name} {m:Mark}:Stays (join a b) s m↔(ctxHas a.1 m.1=false∧ctxHas b.1 m.1=false)∨∃m',JIn a b s m'∧m'.1=m.1∧¬ML m m':=by
 unfold Stays;have h:ctxHas (join a b).1 m.1=false↔ctxHas a.1 m.1=false∧ctxHas b.1 m.1=false:=by
  have:=join_has ha hb m.1;cases h1:ctxHas (join a b).1 m.1<;>cases h2:ctxHas a.1 m.1<;>cases h3:ctxHas b.1 m.1<;>simp_all
 rw[h]
 constructor
 ·rintro (q|⟨m',q1,q2⟩)
  ·exact .inl q
  ·exact .inr ⟨m',(join_in ha hb s m').1 q1,q2⟩
 ·rintro (q|⟨m',q1,q2⟩)
  ·exact .inl q
  ·exact .inr ⟨m',(join_in ha hb s m').2 q1,q2⟩
theorem ml_le {a b c:Mark} (h:¬ML b a) (k:¬ML c b):¬ML c a:=λq=>by
 rcases ml_total a b with e|e|e
 ·exact k (ml_trans q e)
 ·rw [e] at q;exact k q
 ·exact h e
theorem jin_assoc {a b c:Cart} (ha:GoodC a) (hb:GoodC b) (hc:GoodC c) {s:Name} {m:Mark} (h:JIn (join a b) c s m):JIn a (join b c) s m:=by
 unfold JIn at h;rw[join_in ha hb,join_out ha hb] at h;unfold JIn;rw[join_in hb hc,join_out hb hc];rcases h with ⟨h1,h2⟩|⟨h1,h2⟩
 ·rcases h1 with ⟨h1,h3⟩|⟨h1,h3⟩
  ·-- of a
   refine .inl ⟨h1,?_⟩;rcases h3 with h3|⟨n,n1,n2,n3⟩
   ·rcases h2 with h2|⟨p,p1,p2,p3⟩
    ·exact .inl ⟨h3,h2⟩
    ·exact .inr ⟨p,.inr ⟨p1,.inl (by rw[p2];exact h3)⟩,p2,p3⟩
   ·rcases h2 with h2|⟨p,p1,p2,p3⟩
    ·exact .inr ⟨n,.inl ⟨n1,.inl (by rw[n2];exact h2)⟩,n2,n3⟩
    ·by_cases q:ML n p
     ·exact .inr ⟨p,.inr ⟨p1,.inr ⟨n,n1,n2.trans p2.symm,λk=>ml_irrefl _ (ml_trans q k)⟩⟩,p2,p3⟩
     ·exact .inr ⟨n,.inl ⟨n1,.inr ⟨p,p1,p2.trans n2.symm,q⟩⟩,n2,n3⟩
  ·-- of b
   refine .inr ⟨.inl ⟨h1,h2⟩,h3⟩
 ·-- of c
  rcases h2 with ⟨h2,h3⟩|⟨n,n1,n2,n3⟩
  ·exact .inr ⟨.inr ⟨h1,.inl h3⟩,.inl h2⟩
  ·rcases n1 with ⟨n1,k⟩|⟨n1,k⟩
   ·rcases k with k|⟨p,p1,p2,p3⟩
    ·exact .inr ⟨.inr ⟨h1,.inl (by rw[←n2];exact k)⟩,.inr ⟨n,n1,n2,n3⟩⟩
    ·exact .inr ⟨.inr ⟨h1,.inr ⟨p,p1,p2.trans n2,ml_le p3 n3⟩⟩,.inr ⟨n,n1,n2,n3⟩⟩
   ·rcases k with k|⟨p,p1,p2,p3⟩
    ·exact .inr ⟨.inr ⟨h1,.inr ⟨n,n1,n2,n3⟩⟩,.inl (by rw[←n2];exact k)⟩
    ·exact .inr ⟨.inr ⟨h1,.inr ⟨n,n1,n2,n3⟩⟩,.inr ⟨p,p1,p2.trans n2,ml_le p3 n3⟩⟩
theorem jin_comm {a b:Cart} {s:Name} {m:Mark}:JIn a b s m↔JIn b a s m:=or_comm
theorem join_assoc {a b c:Cart} (ha:GoodC a) (hb:GoodC b) (hc:GoodC c):join (join a b) c=join a (join b c):=by
 have hab:=join_good ha hb;have hbc:=join_good hb hc;refine good_ext (join_good hab hc) (join_good ha hbc) (λd=>?_) λs m=>?_
 ·rw [join_has hab hc,join_has ha hb,join_has ha hbc,join_has hb hc]
  exact or_assoc
 ·rw [join_in hab hc,join_in ha hbc]
  refine ⟨jin_assoc ha hb hc,λh=>?_⟩;have h1:JIn (join b c) a s m:=jin_comm.1 h;rw[join_comm hb hc] at h1;have h2:=jin_comm.1 (jin_assoc hc hb ha h1);rw[join_comm hb ha] at h2;exact h2
theorem join_left {a b:Cart} (ha:GoodC a) (hb:GoodC b):join a (join a b)=join a b:=by rw[←join_assoc ha ha hb,join_self ha]
end Go.Pn.Jn
end
section
namespace Go.Pn
open Go.ChangeShapes Go.WideShapes Go.ChangeAt Go.RowKit
section
variable {H:Type} {enc:TypeId×Value→H} {P:Program} {W W':World}
theorem kept_of_le (e:Le W W') (may:MemPlace→Prop):W.keptBut W' may:=by
 refine ⟨e.os,e.output,λi hi=>?_⟩;rw[e.block i hi not_false];cases h:W.heap[i]? with
 |none=>rfl
 |some o=>cases o<;>first|exact ⟨rfl,rfl,rfl,λ_ _=>rfl⟩|exact .inr ⟨rfl,rfl⟩|rfl
theorem frozen_of_le (e:Le W W') {a:Addr} (h:a.block<W.heap.size):W'.frozen? a=W.frozen? a:=by
 unfold World.frozen?;rw[e.block _ h not_false]
theorem same_of_le (e:Le W W') {p:MemPlace} (h:p.block<W.heap.size):W.sameAt W' p:=by
 cases p with
 |cell b off=>show W'.cell? _=W.cell? _;unfold World.cell?;rw[e.block b h not_false]
 |map b=>exact e.block b h not_false
theorem args_of_le (hl:laidOutB P=true) (e:Le W W') {sp:Nat→Bool}:∀{ts:List TypeId} {vs:List Value} {ds:List (DataW H)} {ps:List MemPlace},
 (ts.all λt=>P.readableRec t&&decide (t<P.types.size))=true→DataW.TrodAll enc P W 0 (λ_=>true) true ts vs ds ps→(∀p∈ps,p.block<W.heap.size∧sp p.block=true)→DataW.TrodAll enc P W' 0 sp true ts vs ds ps
 |[],[],[],_,_,h,_=>h
 |[],[],_::_,_,_,h,_=>h.elim
 |[],_::_,[],_,_,h,_=>h.elim
 |[],_::_,_::_,_,_,h,_=>h.elim
 |_::_,[],[],_,_,h,_=>h.elim
 |_::_,[],_::_,_,_,h,_=>h.elim
 |_::_,_::_,[],_,_,h,_=>h.elim
 |_::_,_::_,_::_,_,ht,⟨p,q,h1,h2,e1⟩,hs=>by
  simp only[List.all_cons,Bool.and_eq_true,decide_eq_true_eq] at ht;subst e1;refine ⟨p,q,WideElems.Trod_stays hl ht.1.1 ht.1.2 h1 (λx hx=>same_of_le e (hs x (List.mem_append_left _ hx)).1) (λx hx=>(hs x (List.mem_append_left _ hx)).2),args_of_le hl e ?_ h2 (λx hx=>hs x (List.mem_append_right _ hx)),rfl⟩
  simpa using ht.2
theorem post_of_le {f:Func} {s:ChangeSpec} {fresh handsOn again:Bool} {args:Array Value} {ds gs:List (DataW H)} {before:List MemPlace} {tb:TypeId}
 (hl:laidOutB P=true) (hp:(f.params.toList.all λt=>P.readableRec t&&decide (t<P.types.size))=true) (hv:s.vars=[]) (hr:f.resultTypes=#[tb]) (hb:P.underlying tb=some .bool)
 (hW:DataW.Whole enc P f.params.toList s.vars false W args.toList ds gs before) (e:Le W W')
 (hs:s.fn H (ds++gs)={results:=[.lit (.bool true)],args:=ds}):s.post enc P f false fresh handsOn again W args (.bool true) W':=by
 have hlt:=hW.lt;have hW0:=hW;obtain ⟨p,q,hA,hV,rfl,hz,_⟩:=hW;rw[hv] at hV;obtain ⟨rfl,rfl⟩:=trodVars_none hV;have hres:∀(b:Nat) (sp:Nat→Bool) (hd:Bool),DataW.TrodAll enc P W' b sp hd f.resultTypes.toList ((Value.bool true).resultList f.resultTypes.size) (s.fn H (ds++[])).results []:=by
  intro b sp hd;rw[hs,hr];exact trodAll_cons_mk (shut_bool hb _) trodAll_mk0
 have hargs:∀sp:Nat→Bool,(∀x∈p,sp x.block=true)→DataW.TrodAll enc P W' 0 sp true f.params.toList args.toList (s.fn H (ds++[])).args p:=by
  intro sp hsp;rw[hs];exact args_of_le hl e hp hA λx hx=>⟨hlt x (by simpa using hx),hsp x hx⟩
 have hvars:∀sp:Nat→Bool,DataW.TrodVars enc P W' sp s.vars (s.fn H (ds++[])).vars []:=by
  intro sp;rw[hs,hv]
  rfl
 have hold:∀x∈p,(λb=>decide (b<W.heap.size)) x.block=true:=λx hx=>by simpa using hlt x (by simpa using hx)
 refine ⟨ds,[],p++[],[],p,[],hW0,hres _ _ _,hargs _ hold,hvars _,World.keptBut_mono (λx hx=>⟨hx,.inr (by simpa using hx)⟩) (kept_of_le e _),λ_=>?_⟩;refine ⟨ok_one hr rfl (okWide_bool_mk hb _),_,_,([]++p)++[],⟨[]++p,[],trodAll_append (hargs _ (λ_ _=>rfl)) (hres _ _ _),hvars _,rfl,?_,?_⟩,?_⟩
 ·intro b off hx
  have hx2:MemPlace.cell b off∈p:=by simpa using hx
  rw[frozen_of_le e (hlt _ (by simpa using hx2))];exact hz b off (by simpa using hx2)
 ·intro ha;cases ha
 ·intro x hx _
  simpa using hx
theorem i_of {t:TypeId} {base:Nat} {v:Value} {d:DataW H} {p:List MemPlace} (ht:P.underlying t=some (.int .i64)) (hval:Value.okWide P W .any base t v) (h:DataW.Trod enc P W 0 (λ_=>true) true t v d p):
 ∃z:Int,v=.int .i64 z∧InI z:=by
 obtain ⟨z,rfl,_,_,hw⟩:=open_int ht hval h;simp only[Lit.wf,Bool.and_eq_true,decide_eq_true_eq] at hw;refine ⟨z,rfl,?_⟩;unfold InI;have e1:IntKind.i64.min= -9223372036854775808:=rfl;have e2:IntKind.i64.max=9223372036854775807:=rfl
 omega
end
theorem calls_of {P:Program} {k:FuncId} {args:Array Value} {W:World} {Q:Value→World→Prop} (h:Ret P k args W λv w'=>v=.bool true∧Le W w') (hq:∀w',Le W w'→Q (.bool true) w'):
 Calls P k args W λe W'=>∃v,e=.returned v∧Q v W':=by
 refine Calls.mono h λe W' hh=>?_
 cases e with
 |returned v=>obtain ⟨rfl,e⟩:=hh;exact ⟨_,rfl,hq _ e⟩
 |_=>exact hh.elim
end Go.Pn
end
section
namespace Go.Pn.Bt
open Go Go.Pn Go.Pn.Jn
theorem ord_ext {a b:List Ent} (ha:Ord a) (hb:Ord b) (h:∀k,get a k=get b k):a=b:=by
 refine pw_ext (R:=λa b:Ent=>BL a.1 b.1) (λa=>bl_irrefl a.1) (λh k=>bl_trans h k) ha.up hb.up λx=>⟨λhx=>?_,λhx=>?_⟩
 ·have:=get_mem ha hx
  rw[h] at this;exact mem_get this
 ·have:=get_mem hb hx
  rw[←h] at this;exact mem_get this
theorem oj_none (x:Option Cart):oj x none=x:=by cases x<;>rfl
theorem get_good {l:List Ent} (h:Ord l) {k:Name} {c:Cart} (hc:get l k=some c):GoodC c:=(h.ok _ (mem_get hc)).2
theorem merge_comm {a b:List Ent} (ha:Ord a) (hb:Ord b):merge a b=merge b a:=by
 refine ord_ext (merge_ord ha hb) (merge_ord hb ha) λk=>?_
 rw[merge_get ha hb,merge_get hb ha];cases h1:get a k with
 |none=>rw[oj_none];rfl
 |some c=>
  cases h2:get b k with
  |none=>rfl
  |some d=>exact congrArg some (join_comm (get_good ha h1) (get_good hb h2))
theorem oj_assoc {x y z:Option Cart} (hx:∀c,x=some c→GoodC c) (hy:∀c,y=some c→GoodC c) (hz:∀c,z=some c→GoodC c):oj (oj x y) z=oj x (oj y z):=by
 cases x with
 |none=>rfl
 |some a=>
  cases y with
  |none=>rfl
  |some b=>
   cases z with
   |none=>rfl
   |some c=>exact congrArg some (join_assoc (hx a rfl) (hy b rfl) (hz c rfl))
theorem merge_assoc {a b c:List Ent} (ha:Ord a) (hb:Ord b) (hc:Ord c):merge (merge a b) c=merge a (merge b c):=by
 refine ord_ext (merge_ord (merge_ord ha hb) hc) (merge_ord ha (merge_ord hb hc)) λk=>?_
 rw[merge_get (merge_ord ha hb) hc,merge_get ha hb,merge_get ha (merge_ord hb hc),merge_get hb hc];exact oj_assoc (λ_ h=>get_good ha h) (λ_ h=>get_good hb h) (λ_ h=>get_good hc h)
end Go.Pn.Bt
end
section
namespace Go.Pn.Cn
open Go Go.Pn
end Go.Pn.Cn
namespace Go.Pn.Cn
theorem flat_bound {α:Type} {f:α→List UInt8} {b n:Nat} {l:List α} (h:∀x∈l,(f x).length≤b) (hn:l.length≤n):(l.flatMap f).length≤b*n:=Nat.le_trans (flatMap_le h) (Nat.mul_le_mul_left b hn)
theorem bytes_small {a:Cart} (h:small a=true):(bytes a).length≤25000:=by
 obtain ⟨h1,h2,h3,h4⟩:=small_iff h;have g1:=flat_bound (f:=dotB) (b:=20) (n:=40) (l:=a.1.1) (λx _=>dotB_le x) h1;have g2:=flat_bound (f:=dotB) (b:=20) (n:=40) (l:=a.1.2) (λx _=>dotB_le x) h2;have g3:∀x∈a.2,(itemB x).length≤1000:=by
  intro x hx;obtain ⟨i1,i2⟩:=h4 x hx;have g:=flat_bound (f:=markB) (b:=40) (n:=20) (l:=x.2) (λm _=>markB_le m) i1;have n1:=num_le x.1.length (by omega);have n2:=num_le x.2.length (by omega);unfold itemB strB;simp only[List.length_append]
  omega
 have g4:=flat_bound (f:=itemB) (b:=1000) (n:=20) (l:=a.2) g3 h3;have n1:=num_le a.1.1.length (by omega);have n2:=num_le a.1.2.length (by omega);have n3:=num_le a.2.length (by omega);unfold bytes ctxB dotsB itemsB;simp only[List.length_append]
 omega
end Go.Pn.Cn
end
section
namespace Go.Pn.Bt
open Go Go.Pn Go.Pn.Jn
theorem rises_yes {l:List Ent} (h2:∀i,∀h:i+1<l.length,Op.bytesLess l[i].1 l[i+1].1=true):rises l=true:=Cn.adj_yes h2
theorem rises_no {l:List Ent} {i j:Nat} (hi:i<l.length) (hj:j<l.length) (hij:i=j+1) (h:Op.bytesLess l[j].1 l[i].1=false):rises l=false:=Cn.adj_no hi hj hij h
theorem ordered_of {l:List Ent} (h1:∀i,∀h:i<l.length,okE l[i]=true):ordered l=rises l:=by
 unfold ordered;rw[Cn.all_yes h1]
 rfl
theorem small_Big {l:List Ent} {most:Int} (h:small l most=true):Big l:=λx hx=>by
 have:=(small_iff h).2 x hx;exact ⟨by omega,small_big this.2⟩
theorem ent_small {x:Ent} (h1:x.1.length≤100) (h2:Cn.small x.2=true):(entB x).length≤25110:=by
 unfold entB Cn.strB;have:=Cn.bytes_small h2;have:=Cn.num_le x.1.length (by omega);simp only[List.length_append]
 omega
end Go.Pn.Bt
end
section
namespace Go.Pn.Bt
open Go Go.Pn Go.Pn.Jn
theorem smallE_of {x:Ent} (h1:x.1.length≤100) (h2:Cn.small x.2=true):smallE x=true:=by unfold smallE;rw[decide_eq_true h1,h2];rfl
theorem smallE_no1 {x:Ent} (h1:¬x.1.length≤100):smallE x=false:=by unfold smallE;rw[decide_eq_false h1];rfl
theorem smallE_no2 {x:Ent} (h2:Cn.small x.2=false):smallE x=false:=by unfold smallE;rw[h2,Bool.and_false]
theorem small_no {l:List Ent} {most:Int} {i:Nat} (hi:i<l.length) (h:smallE l[i]=false):small l most=false:=by unfold small;rw[Cn.all_no hi h,Bool.and_false]
theorem small_end {l:List Ent} {most:Int} {n:Nat} (hn:n=l.length) (h:(n:Int)≤most→∀i,∀hi:i<l.length,smallE l[i]=true) (_:True):decide ((n:Int)≤most)=small l most:=by
 subst hn;unfold small
 by_cases hm:(l.length:Int)≤most
 ·rw [Cn.all_yes (h hm),Bool.and_true]
 ·rw [decide_eq_false hm,Bool.false_and]
end Go.Pn.Bt
end
section
namespace Go.Pn
section
variable {w w':World} {F F' M:Nat→Prop} {r:(Raw×Raw)×Raw} {c:CartT}
end
section
variable {w w':World} {F F' M:Nat→Prop} {raw:List EntR} {l:List EntT} {v:Value}
theorem Sl.ents (h:Sl entE w F v l):∃raw,Sl entF.enc w F v raw∧EntL w F raw l:=by
 obtain ⟨rs,h1,h2,h3⟩:=Sl.raws (G:=entF) (R:=λr x=>r.1=x.1∧CartAt w F r.2 x.2) rfl (λcs x hr=>by
  obtain ⟨_,_,rfl,hs,_,_,rfl,⟨_,_,rfl,⟨va,rfl,hx⟩,vb,rfl,hy⟩,vc,rfl,hz⟩:=hr;obtain ⟨a1,rfl⟩:=hx.slv;obtain ⟨a2,rfl⟩:=hy.slv;obtain ⟨a3,rfl⟩:=hz.slv;have hs2:_=[str x.1]:=hs;subst hs2;exact ⟨(x.1,(a1,a2),a3),rfl,rfl,hx,hy,hz⟩) h
 exact ⟨rs,h1,h2,h3⟩
end
end Go.Pn
end
section
namespace Go.Pn.Bt
open Go Go.Pn Go.Pn.Jn
section
variable {l:List Ent} {most:Int}
theorem small_ent (h:small l most=true):∀x∈l,(entB x).length≤25110:=λx hx=>ent_small ((small_iff h).2 x hx).1 ((small_iff h).2 x hx).2
theorem small_flat (h:small l most=true):(l.flatMap entB).length≤25110*l.length:=Cn.flatMap_le (small_ent h)
theorem small_valid (h:small l most=true) (hm:most≤1024):valid l=ordered l:=by
 unfold valid;rw[decide_eq_true (by have:=small_len h;omega),Bool.true_and]
theorem enc_le (h:small l most=true):(enc l).length≤25110*l.length+14+l.length:=by
 have h1:=small_flat h;have h2:=num_le_len l.length;rw[enc_len,body_len]
 omega
where
 num_le_len (n:Nat):(Cn.num n).length≤10+n:=by
  by_cases h:n<2^64
  ·have:=Cn.num_le n h;omega
  ·have key:∀m:Nat,(Cn.num m).length≤1+m:=by
    intro m
    induction m using Nat.strongRecOn with
    |ind m ih=>
     by_cases q:m<128
     ·rw [Cn.num_lt q];simp
     ·rw [Cn.num_ge q,List.length_cons]
      have:=ih (m/128) (by omega)
      omega
   have:=key n
   omega
end
end Go.Pn.Bt
end
section
namespace Go.Pn.Ob
open Go Go.Pn Go.Pn.Jn Go.Pn.Bt
theorem keys_mem {l:List Ent} {k:Name}:k∈keys l↔∃x∈l,x.1=k:=List.mem_map
theorem get_keys {l:List Ent} {k:Name}:(get l k).isSome↔k∈keys l:=by
 unfold Bt.get;rw[Option.isSome_map,List.find?_isSome,keys_mem];simp only[decide_eq_true_eq]
end Go.Pn.Ob
end
