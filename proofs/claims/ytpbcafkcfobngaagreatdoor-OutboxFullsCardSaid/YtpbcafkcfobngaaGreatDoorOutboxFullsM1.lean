/-
 Plain operations on numbers, Bools and strings, a rule each. No condition beyond what each rule asks.
-/
import Derived.WalkKit
import Derived.WalkSpells
import Derived.WalkLawsBesides
import Derived.Laws.AppendOwnNone
import Derived.Great.BuildSlice
import Derived.OrdersHeld
import Derived.Laws.Externs
import Derived.Laws.Cells
import Derived.Laws.Tables
import Derived.Laws.StructEq
import Derived.Deep.Draws
import Derived.Sort.Grow
import Derived.Lib.IndexMore
import Derived.Lib.TrimByte
import Derived.Shelf.SlSortCmp.WholeK
import Derived.Maps.RangeRun
import Derived.MapKept
import Derived.ProofKit
import Derived.OpenShut
import Derived.WideKeyArgs
import Derived.LaidLaws
import Derived.Deep.DeepHandedRow
import Derived.Deep.DeepWitnessRowRef
import Derived.Lib.LaidTab
import Derived.Deep.Slices
import Derived.Shelf.SlSortCmp.Whole1
import Derived.Lib.AppendZeros
import Derived.Lib.AppendStr
import Derived.Defers
import Derived.Recover
import Derived.RangeFuncLeaves
import Derived.RangeFuncSeq
import Derived.Lib.Bytealg
import Derived.Scope
import Derived.Test.YtpbcafkcfobngaaGreatDoorRows
import Derived.Shelf.SlLaysF
import Derived.Shelf.SlLaysF0
import Derived.Ground.SlsfProg
import Derived.Test.YtpbcafkcfobngaaGreatDoorProg
import Derived.Shelf.Strings.Trim
import Derived.Shelf.Small.Bits
import Derived.Shelf.Small.Wraps
import Derived.Shelf.Strings.Search3
import Derived.Shelf.LaysM
import Derived.Shelf.Strings.Shaped
import Derived.Shelf.Strings.Runes
import Derived.Shelf.Slices.CompactS
import Derived.Shelf.Small.Utf8
import Derived.Shelf.Small.Strs
import Derived.Ground.Names2Prog
import Derived.Shelf.Spec.SlicesInsert
import Derived.Shelf.Spec.SlicesInsertGrow
import Derived.Test.YtpbcafkcfobngaaGreatDoorCards
import Derived.Test.YtpbcafkcfobngaaGreatDoorTie
import Derived.Test.YtpbcafkcfobngaaGreatDoorOutboxM6
section
namespace Go.Pn
open Go.RowKit
section
variable {P:Program} {n:Nat} {ops rest:List Oper} {N:Val→World→Prop} {Z:List PanicEntry→World→Prop} {f:Val} {w:World}
 {d:Nat} {x y:Operand} {t t' ty:TypeId} {pos:String} {after:Array Edge}
section
variable {a b:Int}
theorem tdiv_nn {a b:Int} (ha:0≤a) (_:0<b):a.tdiv b=a/b:=Int.tdiv_eq_ediv_of_nonneg ha
theorem O.quoI (hx:ev n f x=i64 a) (hy:ev n f y=i64 b) (hb:0≤a∧0<b∧a≤9223372036854775807) (h:O P n ops rest N Z (upd f d (i64 (a/b))) w):
 O P n ops (ZO d (.binOp .quo t x y t') ty pos after::rest) N Z f w:=
 O.val rfl rfl (by
  have h1:b≠0:=by omega
  have h2:InI (a/b):=by
   have e1:=Int.ediv_nonneg hb.1 (Int.le_of_lt hb.2.1);have e2:=Int.ediv_le_self b hb.1;unfold InI;omega
  simp[execOp,hx,hy,eqGuard,binOp,Op.intDiv,h1,tdiv_nn hb.1 hb.2.1,wrap_in h2]) h
theorem O.remI (hx:ev n f x=i64 a) (hy:ev n f y=i64 b) (hb:0≤a∧0<b) (h:O P n ops rest N Z (upd f d (i64 (a%b))) w):
 O P n ops (ZO d (.binOp .rem t x y t') ty pos after::rest) N Z f w:=
 O.val rfl rfl (by
  have h1:b≠0:=by omega
  simp[execOp,hx,hy,eqGuard,binOp,Op.intDiv,h1,Int.tmod_eq_emod_of_nonneg hb.1]) h
end
section
variable {k:IntKind} {m:Nat} {a b:BitVec m}
end
section
variable {k k':IntKind} {m m':Nat}
theorem O.convUI {a:BitVec m} (ht:P.underlying t=some (.int k)) (ht':P.underlying t'=some (.int .i64)) (hx:ev n f x=.int k (a.toNat:Int)) (hm:m<64)
 (h:O P n ops rest N Z (upd f d (i64 (a.toNat:Int))) w):
 O P n ops (ZO d (.convert t t' x) ty pos after::rest) N Z f w:=
 O.val rfl rfl (by
  have e:IntKind.i64.wrap (a.toNat:Int)=(a.toNat:Int):=by
   apply wrap_in
   have h1:=a.isLt;have h2:2^m≤2^63:=Nat.pow_le_pow_right (by decide) (by omega);unfold InI;omega
  simp[execOp,hx,convert,run_underlying ht,run_underlying ht',Conv.intToInt,e]) h
end
section
variable {a b:List UInt8}
end
end
end Go.Pn
end
section
namespace Go.Pn
open Go.ChangeShapes Go.WideShapes Go.ChangeAt Go.RowKit
section
variable {H:Type} {enc:TypeId×Value→H} {P:Program} {W W':World}
theorem kept_of_le (e:Le W W') (may:MemPlace→Prop):W.keptBut W' may:=by
 refine ⟨e.os,e.output,λi hi=>?_⟩;rw[e.block i hi not_false];cases h:W.heap[i]? with
 |none=>rfl
 |some o=>cases o<;>first|exact ⟨rfl,rfl,rfl,λ_ _=>rfl⟩|exact .inr ⟨rfl,rfl⟩|rfl
theorem frozen_of_le (e:Le W W') {a:Addr} (h:a.block<W.heap.size):W'.frozen? a=W.frozen? a:=by
 unfold World.frozen?;rw[e.block _ h not_false]
theorem same_of_le (e:Le W W') {p:MemPlace} (h:p.block<W.heap.size):W.sameAt W' p:=by
 cases p with
 |cell b off=>show W'.cell? _=W.cell? _;unfold World.cell?;rw[e.block b h not_false]
 |map b=>exact e.block b h not_false
theorem args_of_le (hl:laidOutB P=true) (e:Le W W') {sp:Nat→Bool}:∀{ts:List TypeId} {vs:List Value} {ds:List (DataW H)} {ps:List MemPlace},
 (ts.all λt=>P.readableRec t&&decide (t<P.types.size))=true→DataW.TrodAll enc P W 0 (λ_=>true) true ts vs ds ps→(∀p∈ps,p.block<W.heap.size∧sp p.block=true)→DataW.TrodAll enc P W' 0 sp true ts vs ds ps
 |[],[],[],_,_,h,_=>h
 |[],[],_::_,_,_,h,_=>h.elim
 |[],_::_,[],_,_,h,_=>h.elim
 |[],_::_,_::_,_,_,h,_=>h.elim
 |_::_,[],[],_,_,h,_=>h.elim
 |_::_,[],_::_,_,_,h,_=>h.elim
 |_::_,_::_,[],_,_,h,_=>h.elim
 |_::_,_::_,_::_,_,ht,⟨p,q,h1,h2,e1⟩,hs=>by
  simp only[List.all_cons,Bool.and_eq_true,decide_eq_true_eq] at ht;subst e1;refine ⟨p,q,WideElems.Trod_stays hl ht.1.1 ht.1.2 h1 (λx hx=>same_of_le e (hs x (List.mem_append_left _ hx)).1) (λx hx=>(hs x (List.mem_append_left _ hx)).2),args_of_le hl e ?_ h2 (λx hx=>hs x (List.mem_append_right _ hx)),rfl⟩
  simpa using ht.2
theorem post_of_le {f:Func} {s:ChangeSpec} {fresh handsOn again:Bool} {args:Array Value} {ds gs:List (DataW H)} {before:List MemPlace} {tb:TypeId}
 (hl:laidOutB P=true) (hp:(f.params.toList.all λt=>P.readableRec t&&decide (t<P.types.size))=true) (hv:s.vars=[]) (hr:f.resultTypes=#[tb]) (hb:P.underlying tb=some .bool)
 (hW:DataW.Whole enc P f.params.toList s.vars false W args.toList ds gs before) (e:Le W W')
 (hs:s.fn H (ds++gs)={results:=[.lit (.bool true)],args:=ds}):s.post enc P f false fresh handsOn again W args (.bool true) W':=by
 have hlt:=hW.lt;have hW0:=hW;obtain ⟨p,q,hA,hV,rfl,hz,_⟩:=hW;rw[hv] at hV;obtain ⟨rfl,rfl⟩:=trodVars_none hV;have hres:∀(b:Nat) (sp:Nat→Bool) (hd:Bool),DataW.TrodAll enc P W' b sp hd f.resultTypes.toList ((Value.bool true).resultList f.resultTypes.size) (s.fn H (ds++[])).results []:=by
  intro b sp hd;rw[hs,hr];exact trodAll_cons_mk (shut_bool hb _) trodAll_mk0
 have hargs:∀sp:Nat→Bool,(∀x∈p,sp x.block=true)→DataW.TrodAll enc P W' 0 sp true f.params.toList args.toList (s.fn H (ds++[])).args p:=by
  intro sp hsp;rw[hs];exact args_of_le hl e hp hA λx hx=>⟨hlt x (by simpa using hx),hsp x hx⟩
 have hvars:∀sp:Nat→Bool,DataW.TrodVars enc P W' sp s.vars (s.fn H (ds++[])).vars []:=by
  intro sp;rw[hs,hv]
  rfl
 have hold:∀x∈p,(λb=>decide (b<W.heap.size)) x.block=true:=λx hx=>by simpa using hlt x (by simpa using hx)
 refine ⟨ds,[],p++[],[],p,[],hW0,hres _ _ _,hargs _ hold,hvars _,World.keptBut_mono (λx hx=>⟨hx,.inr (by simpa using hx)⟩) (kept_of_le e _),λ_=>?_⟩;refine ⟨ok_one hr rfl (okWide_bool_mk hb _),_,_,([]++p)++[],⟨[]++p,[],trodAll_append (hargs _ (λ_ _=>rfl)) (hres _ _ _),hvars _,rfl,?_,?_⟩,?_⟩
 ·intro b off hx
  have hx2:MemPlace.cell b off∈p:=by simpa using hx
  rw[frozen_of_le e (hlt _ (by simpa using hx2))];exact hz b off (by simpa using hx2)
 ·intro ha;cases ha
 ·intro x hx _
  simpa using hx
theorem u_of {t:TypeId} {base m:Nat} {k:IntKind} {v:Value} {d:DataW H} {p:List MemPlace} (ht:P.underlying t=some (.int k)) (hk:k.min=0) (hk2:k.max=2^m-1) (hval:Value.okWide P W .any base t v) (h:DataW.Trod enc P W 0 (λ_=>true) true t v d p):
 ∃x:BitVec m,v=.int k (x.toNat:Int):=by
 obtain ⟨z,rfl,_,_,hw⟩:=open_int ht hval h;simp only[Lit.wf,Bool.and_eq_true,decide_eq_true_eq] at hw;refine ⟨BitVec.ofInt m z,?_⟩
 congr 1
 rw[BitVec.toNat_ofInt];have h1:(2^m:Int)=((2^m:Nat):Int):=by norm_cast
 have hp:0<2^m:=Nat.pow_pos (by decide);rw[Int.emod_eq_of_lt (by omega) (by omega)]
 omega
theorem i_of {t:TypeId} {base:Nat} {v:Value} {d:DataW H} {p:List MemPlace} (ht:P.underlying t=some (.int .i64)) (hval:Value.okWide P W .any base t v) (h:DataW.Trod enc P W 0 (λ_=>true) true t v d p):
 ∃z:Int,v=.int .i64 z∧InI z:=by
 obtain ⟨z,rfl,_,_,hw⟩:=open_int ht hval h;simp only[Lit.wf,Bool.and_eq_true,decide_eq_true_eq] at hw;refine ⟨z,rfl,?_⟩;unfold InI;have e1:IntKind.i64.min= -9223372036854775808:=rfl;have e2:IntKind.i64.max=9223372036854775807:=rfl
 omega
end
theorem calls_of {P:Program} {k:FuncId} {args:Array Value} {W:World} {Q:Value→World→Prop} (h:Ret P k args W λv w'=>v=.bool true∧Le W w') (hq:∀w',Le W w'→Q (.bool true) w'):
 Calls P k args W λe W'=>∃v,e=.returned v∧Q v W':=by
 refine Calls.mono h λe W' hh=>?_
 cases e with
 |returned v=>obtain ⟨rfl,e⟩:=hh;exact ⟨_,rfl,hq _ e⟩
 |_=>exact hh.elim
end Go.Pn
end
section
namespace Go.Pn.Bt
open Go Go.Pn Go.Pn.Jn
theorem ord_ext {a b:List Ent} (ha:Ord a) (hb:Ord b) (h:∀k,get a k=get b k):a=b:=by
 refine pw_ext (R:=λa b:Ent=>BL a.1 b.1) (λa=>bl_irrefl a.1) (λh k=>bl_trans h k) ha.up hb.up λx=>⟨λhx=>?_,λhx=>?_⟩
 ·have:=get_mem ha hx
  rw[h] at this;exact mem_get this
 ·have:=get_mem hb hx
  rw[←h] at this;exact mem_get this
theorem oj_none (x:Option Cart):oj x none=x:=by cases x<;>rfl
end Go.Pn.Bt
end
section
namespace Go.Pn.Cn
open Go Go.Pn
def Rd {α:Type} (Q:α→Prop) (f:α→List UInt8) (l:List UInt8) (k:Nat) (bad:Bool) (x:α) (k':Nat) (bad':Bool):Prop:=
 k'≤l.length∧((bad'=false∧bad=false∧Seg (f x) l k k')∨(bad'=true∧(bad=false→No Q f l k)))
section
variable {l x:List UInt8} {k k1 k2 k3 i:Nat} {bad b1 b2 b3:Bool} {n m q:BitVec 64} {d:Dot}
section
variable {α:Type} {Q:α→Prop} {f:α→List UInt8} {xs:List α} {y:α}
end
end
end Go.Pn.Cn
end
section
namespace Go.Pn.Ob
open Go Go.Pn Go.Pn.Jn Go.Pn.Bt
theorem keys_mem {l:List Ent} {k:Name}:k∈keys l↔∃x∈l,x.1=k:=List.mem_map
end Go.Pn.Ob
end
section
namespace Go.Pn.Ob
open Go Go.Pn Go.Pn.Jn Go.Pn.Bt
def hit (ks:List Name) (k:Name) (i:Nat):Bool:=decide (ks[i]? =some k)
end Go.Pn.Ob
end
section
namespace Go.Pn.Ob
open Go Go.Pn Go.Pn.Jn Go.Pn.Bt
def tm (l:List ItemT):Nat:=(l.map (·.2.length)).sum
theorem tm_cons (x:ItemT) (l:List ItemT):tm (x::l)=x.2.length+tm l:=by unfold tm;rw[List.map_cons,List.sum_cons]
def SzC (N:Nat) (x:CartT):Prop:=x.1.1.length≤40*N+20*(N*(N+1))∧x.1.2.length≤40*N∧x.2.length≤20*N∧tm x.2≤400*N∧∀y∈x.2,y.1.length≤100
theorem mul_mono {N M:Nat} (h:N≤M):N*(N+1)≤M*(M+1):=Nat.mul_le_mul h (by omega)
theorem tm_le {l:List ItemT} {n:Nat} (h:∀y∈l,y.2.length≤n):tm l≤n*l.length:=by
 induction l with
 |nil=>exact Nat.zero_le _
 |cons x l ih=>
  have h1:=h x List.mem_cons_self;have h2:=ih λy hy=>h y (List.mem_cons_of_mem _ hy)
  rw[tm_cons,List.length_cons,Nat.mul_add]
  omega
theorem mem_tm {l:List ItemT} {y:ItemT} (h:y∈l):y.2.length≤tm l:=by
 induction l with
 |nil=>cases h
 |cons x l ih=>
  rw[tm_cons];rcases List.mem_cons.1 h with rfl|h
  ·omega
  ·have:=ih h;omega
theorem SzC.small {x:CartT} (h:Cn.small x=true):SzC 1 x:=by
 obtain ⟨h1,h2,h3,h4⟩:=Cn.small_iff h;have h5:=tm_le (n:=20) λy hy=>(h4 y hy).1
 exact ⟨by omega,by omega,by omega,by omega,λy hy=>(h4 y hy).2⟩
theorem dotsB_n (l:List Dt.Dot) (h:l.length≤1000000):(Cn.dotsB l).length≤10+20*l.length:=by
 have h1:=Cn.num_le l.length (by omega);have h2:=Cn.flatMap_le (f:=Cn.dotB) (b:=20) (l:=l) λx _=>Cn.dotB_le x
 unfold Cn.dotsB;rw[List.length_append]
 omega
theorem items_n {l:List ItemT} (h:∀y∈l,y.1.length≤100∧y.2.length≤1000000):(l.flatMap Cn.itemB).length≤120*l.length+40*tm l:=by
 induction l with
 |nil=>exact Nat.zero_le _
 |cons x l ih=>
  have h1:=h x List.mem_cons_self;have h2:=ih λy hy=>h y (List.mem_cons_of_mem _ hy)
  have h3:=Cn.num_le x.1.length (by omega);have h4:=Cn.num_le x.2.length (by omega);have h5:=Cn.flatMap_le (f:=Cn.markB) (b:=40) (l:=x.2) λy _=>Cn.markB_le y
  rw[List.flatMap_cons,List.length_append,tm_cons,List.length_cons];have h6:(Cn.itemB x).length≤120+40*x.2.length:=by
   unfold Cn.itemB Cn.strB;simp only[List.length_append]
   omega
  omega
theorem SzC.ent {x:Ent} {N:Nat} (h:SzC N x.2) (hN:N≤25) (hk:x.1.length≤100):(entB x).length≤900000:=by
 obtain ⟨h1,h2,h3,h4,h5⟩:=h;have:=mul_mono hN;have d1:=dotsB_n x.2.1.1 (by omega);have d2:=dotsB_n x.2.1.2 (by omega);have d3:=Cn.num_le x.2.2.length (by omega);have d4:=Cn.num_le x.1.length (by omega);have d5:=items_n (l:=x.2.2) λy hy=>⟨h5 y hy,by have:=mem_tm hy;omega⟩
 unfold entB Cn.strB Cn.bytes Cn.ctxB Cn.itemsB;simp only[List.length_append]
 omega
theorem SzC.big {x:Ent} {N:Nat} (h:SzC N x.2) (hN:N≤25) (hk:x.1.length≤100):Big [x]∧Mid 20000 [x]:=by
 obtain ⟨h1,h2,h3,h4,h5⟩:=h;have:=mul_mono hN;refine ⟨λy hy=>?_,λy hy=>?_⟩
 ·rw [List.mem_singleton.1 hy]
  exact ⟨by omega,by omega,by omega,by omega,λz hz=>by have:=mem_tm hz;have:=h5 z hz;omega⟩
 ·rw [List.mem_singleton.1 hy]
  exact ⟨by omega,by omega,by omega,λz hz=>by have:=mem_tm hz;have:=h5 z hz;omega⟩
end Go.Pn.Ob
end
section
namespace Go.Pn.Ob
open Go Go.Pn Go.Pn.Jn Go.Pn.Bt
def one (x:Ent):List Ent:=if okE x then [x] else []
theorem get_one (x:Ent) (k:Name):get [x] k=if x.1=k then some x.2 else none:=by rw[get_cons,get_nil]
theorem okKey_len {s:List UInt8} (h:okKey s=true):s.length≤64:=by
 unfold okKey at h;simp only[Bool.and_eq_true,decide_eq_true_eq] at h;exact h.2.2
theorem sz_all {l:List Ent} {N:Nat} (ho:Ord l) (h:∀k c,get l k=some c→SzC N c) (hN:N≤25):Big l∧Mid 20000 l∧∀x∈l,(entB x).length≤900000:=by
 have key:∀x∈l,SzC N x.2∧x.1.length≤100:=λx hx=>⟨h x.1 x.2 (get_mem ho hx),by have:=okKey_len (ho.ok x hx).1;omega⟩
 refine ⟨λx hx=>?_,λx hx=>?_,λx hx=>(key x hx).1.ent hN (key x hx).2⟩
 ·exact ((key x hx).1.big hN (key x hx).2).1 x List.mem_cons_self
 ·exact ((key x hx).1.big hN (key x hx).2).2 x List.mem_cons_self
def st (n:Int) (xs:List Ent):List Ent×List Name:=xs.foldl (λs x=>if okE x then put n s.1 s.2 x.1 x.2 else s) ([],[])
theorem get_picked {d:List Name} {wl:List Ent} (hw:Ord wl) (hd:d.Pairwise BL) (k:Name):get (picked d wl) k=if k∈d then get wl k else none:=by
 by_cases hk:k∈d
 ·rw [if_pos hk]
  cases hg:get wl k with
  |some c=>
   exact get_mem (picked_ord hw hd) (x:=(k,c)) (List.mem_filterMap.2 ⟨k,hk,by rw[hg];rfl⟩)
  |none=>
   refine get_none λx hx e=>?_
   have:=get_mem hw (picked_keys hx).1;rw[e,hg] at this;cases this
 ·rw [if_neg hk]
  exact get_none λx hx e=>hk (by rw[←e];exact (picked_keys hx).2)
end Go.Pn.Ob
end
section
namespace Go.Pn.Ob
open Go Go.Pn Go.Pn.Jn Go.Pn.Bt
def K (i:Nat):Name:=[107,UInt8.ofNat (48+i/100),UInt8.ofNat (48+i/10%10),UInt8.ofNat (48+i%10)]
theorem k_ok:∀i,i<300→okKey (K i)=true:=by decide+kernel
theorem k_next:∀i,i<299→Op.bytesLess (K i) (K (i+1))=true:=by decide+kernel
theorem k_lt {i j:Nat} (h:i<j) (hj:j<300):BL (K i) (K j):=by
 obtain ⟨d,rfl⟩:∃d,j=i+1+d:=⟨j-i-1,by omega⟩
 clear h
 induction d with
 |zero=>exact k_next i (by omega)
 |succ d ih=>exact bl_trans (ih (by omega)) (k_next (i+1+d) (by omega))
theorem k_inj {i j:Nat} (hi:i<300) (hj:j<300) (h:K i=K j):i=j:=by
 rcases Nat.lt_trichotomy i j with g|g|g
 ·exact absurd (h ▸ k_lt g hj) (bl_irrefl _)
 ·exact g
 ·exact absurd (h ▸ k_lt g hi) (bl_irrefl _)
def A (m:Nat) (f:Nat→CartT):List Ent:=(List.range m).map λj=>(K j,f j)
theorem a_len (m:Nat) (f:Nat→CartT):(A m f).length=m:=by unfold A;simp
theorem a_get {m:Nat} {f:Nat→CartT} {i:Nat} (h:i<(A m f).length):(A m f)[i]=(K i,f i):=(List.getElem_map (λj=>(K j,f j)) (l:=List.range m) (h:=h)).trans (by rw[List.getElem_range])
theorem a_mem {m:Nat} {f:Nat→CartT} {x:Ent} (h:x∈A m f):∃j,j<m∧x=(K j,f j):=by
 obtain ⟨j,hj,e⟩:=List.mem_map.1 h;exact ⟨j,List.mem_range.1 hj,e.symm⟩
theorem a_at {m:Nat} {f:Nat→CartT} {j:Nat} (h:j<m):(K j,f j)∈A m f:=List.mem_map.2 ⟨j,List.mem_range.2 h,rfl⟩
theorem a_ord {m:Nat} {f:Nat→CartT} (hm:m≤300) (hf:∀j,j<m→GoodC (f j)):Ord (A m f):=by
 refine ⟨λx hx=>?_,?_⟩
 ·obtain ⟨j,hj,rfl⟩:=a_mem hx
  exact ⟨k_ok j (by omega),hf j hj⟩
 ·unfold A
  refine List.pairwise_map.2 (List.Pairwise.imp_of_mem (λ{a b} _ hb h=>?_) List.pairwise_lt_range);have:=List.mem_range.1 hb;exact k_lt h (by omega)
theorem a_getK {m:Nat} {f:Nat→CartT} (hm:m≤300) (hf:∀j,j<m→GoodC (f j)) {j:Nat} (hj:j<300):get (A m f) (K j)=if j<m then some (f j) else none:=by
 by_cases h:j<m
 ·rw [if_pos h];exact get_mem (a_ord hm hf) (a_at h)
 ·rw [if_neg h]
  refine get_none λx hx e=>?_
  obtain ⟨i,hi,rfl⟩:=a_mem hx;exact h (by rw[←k_inj (by omega) hj e];exact hi)
theorem a_no {m:Nat} {f:Nat→CartT} (hm:m≤300) {k:Name} (h:∀j,j<300→K j≠k):get (A m f) k=none:=get_none λx hx e=>by
 obtain ⟨i,hi,rfl⟩:=a_mem hx;exact h i (by omega) e
theorem a_keys {m:Nat} {f:Nat→CartT} (hm:m≤300) {j:Nat} (hj:j<300):K j∈keys (A m f)↔j<m:=by
 rw[keys_mem]
 constructor
 ·rintro ⟨x,hx,e⟩
  obtain ⟨i,hi,rfl⟩:=a_mem hx;rw[←k_inj (by omega) hj e];exact hi
 ·intro h;exact ⟨_,a_at h,rfl⟩
theorem a_congr {m:Nat} {f g:Nat→CartT} (h:∀j,j<m→f j=g j):A m f=A m g:=List.map_congr_left λj hj=>by rw[h j (List.mem_range.1 hj)]
theorem a_eq {l:List Ent} {m:Nat} {f:Nat→CartT} (hl:Ord l) (hm:m≤300) (hf:∀j,j<m→GoodC (f j)) (h1:∀j,j<300→get l (K j)=if j<m then some (f j) else none) (h2:∀k,(∀j,j<300→K j≠k)→get l k=none):l=A m f:=by
 refine ord_ext hl (a_ord hm hf) λk=>?_
 by_cases hk:∃j,j<300∧K j=k
 ·obtain ⟨j,hj,rfl⟩:=hk
  rw[h1 j hj,a_getK hm hf hj]
 ·have hk:∀j,j<300→K j≠k:=λj hj e=>hk ⟨j,hj,e⟩
  rw[h2 k hk,a_no hm hk]
def cN (n:Nat):CartT:=someC 1 n
def c7:CartT:=someC 7 7
theorem good_c:∀n,n<4→1≤n→Cn.valid (cN n)=true:=by decide+kernel
theorem good_n {n:Nat} (h:n<4) (h1:1≤n):GoodC (cN n):=good_iff.1 (good_c n h h1)
theorem good_7:GoodC c7:=good_iff.1 (by decide+kernel)
theorem join_c:∀n,n<3→1≤n→Jn.join (cN n) (cN (n+1))=cN (n+1):=by decide+kernel
theorem small_some (r c:Int):Cn.small (someC r c)=true:=rfl
def cR (n i:Nat):Nat→CartT:=λj=>if j<i then cN n else cN (n-1)
def lF (s m n i:Nat):List Ent:=A (min m s) (cR n i)
def dF (s m:Nat):List Name:=(List.range' s (m-s)).map K
def Rd (m n i many:Nat):Prop:=(n=1∧m=i)∨(2≤n∧m=many)
theorem cR_good {s m n i many:Nat} (h:Rd m n i many) (hn:n<4):∀j,j<min m s→GoodC (cR n i j):=λj hj=>by
 unfold cR;rcases h with ⟨rfl,rfl⟩|⟨h,rfl⟩
 ·rw [if_pos (by omega)];exact good_n hn (Nat.le_refl _)
 ·split
  ·exact good_n hn (by omega)
  ·exact good_n (by omega) (by omega)
theorem df_mem {s m:Nat} {k:Name}:k∈dF s m↔∃j,s≤j∧j<m∧k=K j:=by
 unfold dF;rw[List.mem_map]
 constructor
 ·rintro ⟨j,hj,rfl⟩
  have:=List.mem_range'_1.1 hj;exact ⟨j,this.1,by omega,rfl⟩
 ·rintro ⟨j,h1,h2,rfl⟩
  exact ⟨j,List.mem_range'_1.2 ⟨h1,by omega⟩,rfl⟩
theorem df_len (s m:Nat):(dF s m).length=m-s:=by unfold dF;simp
theorem df_get {s m i:Nat} (h:i<(dF s m).length):(dF s m)[i]=K (s+i):=(List.getElem_map K (l:=List.range' s (m-s)) (h:=h)).trans (by rw[List.getElem_range',Nat.one_mul])
theorem df_pw {s m:Nat} (hm:m≤300):(dF s m).Pairwise BL:=by
 unfold dF;refine List.pairwise_map.2 (List.Pairwise.imp_of_mem (λ{a b} _ hb h=>?_) List.pairwise_lt_range');have:=List.mem_range'_1.1 hb;exact k_lt h (by omega)
theorem lf_len (s m n i:Nat):(lF s m n i).length=min m s:=a_len _ _
theorem lf_ord {s m n i many:Nat} (h:Rd m n i many) (hn:n<4) (hm:m≤300):Ord (lF s m n i):=a_ord (by omega) (cR_good h hn)
theorem ok_K {i n:Nat} (hi:i<300) (hn:n<4) (h1:1≤n):okE (K i,cN n)=true:=okE_of (k_ok i hi) (good_c n hn h1)
theorem put_K {s m n i many:Nat} (h:Rd m n i many) (hn:n<4) (hi:i<many) (hm:many≤300):put (s:Int) (lF s m n i) (dF s m) (K i) (cN n)=(lF s (if n=1 then i+1 else m) n (i+1),dF s (if n=1 then i+1 else m)):=by
 have hm3:m≤300:=by rcases h with ⟨_,rfl⟩|⟨_,rfl⟩<;>omega
 have hn1:1≤n:=by rcases h with ⟨rfl,_⟩|⟨_,_⟩<;>omega
 have hd:K i∈dF s m↔s≤i∧i<m:=by
  rw[df_mem]
  constructor
  ·rintro ⟨j,h1,h2,e⟩
   rw[k_inj (by omega) (by omega) e];exact ⟨h1,h2⟩
  ·rintro ⟨h1,h2⟩;exact ⟨i,h1,h2,rfl⟩
 have ho:=lf_ord (s:=s) h hn hm3;have hx:=one_ord (ok_K (i:=i) (by omega) hn hn1);have hk:K i∈keys (lF s m n i)↔i<min m s:=a_keys (by omega) (by omega)
 by_cases h1:i<s
 ·rw [put_merge (λq=>by have:=hd.1 q;omega) (by
   rcases h with ⟨_,rfl⟩|⟨_,rfl⟩
   ·right;rw[lf_len];omega
   ·left;exact hk.2 (by omega))]
  refine Prod.ext ?_ ?_
  ·refine a_eq (merge_ord ho hx) (by split<;>omega) (λj hj=>?_) (λj hj=>?_) (λk hk=>?_)
   ·refine cR_good (m:=if n=1 then i+1 else m) (n:=n) (i:=i+1) (many:=many) ?_ hn j hj
    rcases h with ⟨rfl,rfl⟩|⟨h,rfl⟩
    ·exact .inl ⟨rfl,rfl⟩
    ·exact .inr ⟨h,by rw[if_neg (by omega)]⟩
   ·rw [merge_get ho hx,get_one]
    unfold lF;rw[a_getK (by omega) (cR_good h hn) hj]
    by_cases e:i=j
    ·subst e
     rw[if_pos rfl];rcases h with ⟨rfl,rfl⟩|⟨h,rfl⟩
     ·rw [if_neg (by omega),if_pos rfl,if_pos (by omega)]
      unfold cR;rw[if_pos (by omega)]
      rfl
     ·rw [if_neg (show ¬n=1 by omega),if_pos (show i<min m s by omega),if_pos (show i<min m s by omega)]
      unfold cR;rw[if_neg (by omega),if_pos (by omega)];have:=join_c (n-1) (by omega) (by omega);rw[Nat.sub_add_cancel (by omega)] at this;exact congrArg some this
    ·rw [if_neg (λq=>e (k_inj (by omega) hj q)),oj_none]
     have e1:cR n (i+1) j=cR n i j:=by
      unfold cR
      by_cases q:j<i
      ·rw [if_pos q,if_pos (by omega)]
      ·rw [if_neg q,if_neg (by omega)]
     rw[e1];rcases h with ⟨rfl,rfl⟩|⟨h,rfl⟩
     ·rw [if_pos rfl]
      by_cases q:j<min m s
      ·rw [if_pos q,if_pos (by omega)]
      ·rw [if_neg q,if_neg (by omega)]
     ·rw [if_neg (show ¬n=1 by omega)]
   ·rw [merge_get ho hx,get_one,if_neg (hk i (by omega)),oj_none]
    exact a_no (by omega) hk
  ·show dF s m=dF s _
   rcases h with ⟨rfl,rfl⟩|⟨h,rfl⟩
   ·rw [if_pos rfl];unfold dF;rw[show m-s=0 by omega,show m+1-s=0 by omega]
   ·rw [if_neg (by omega)]
 ·rcases h with ⟨rfl,rfl⟩|⟨h,rfl⟩
  ·rw [put_new (λq=>by have:=hd.1 q;omega) (λq=>by have:=hk.1 q;omega) (by rw[lf_len];omega),if_pos rfl]
   refine Prod.ext ?_ ?_
   ·show A _ _=A _ _
    rw[show min (m+1) s=min m s by omega];exact a_congr λj hj=>by unfold cR;rw[if_pos (by omega),if_pos (by omega)]
   ·refine pw_ext bl_irrefl (λa b=>bl_trans a b) (nins_pw _ (df_pw hm3)) (df_pw (by omega)) λx=>?_
    rw[nins_mem,df_mem,df_mem]
    constructor
    ·rintro (rfl|⟨j,q1,q2,rfl⟩)
     ·exact ⟨m,by omega,by omega,rfl⟩
     ·exact ⟨j,q1,by omega,rfl⟩
    ·rintro ⟨j,q1,q2,rfl⟩
     by_cases e:j=m
     ·left;rw[e]
     ·right;exact ⟨j,q1,by omega,rfl⟩
  ·rw [put_marked (hd.2 ⟨by omega,hi⟩),if_neg (by omega)]
   refine Prod.ext ?_ rfl;show A _ _=A _ _;exact a_congr λj hj=>by
    unfold cR
    by_cases q:j<i
    ·rw [if_pos q,if_pos (by omega)]
    ·omega
theorem lf_turn {s many n:Nat}:lF s many n many=lF s many (n+1) 0:=by
 unfold lF;exact a_congr λj hj=>by unfold cR;rw[if_pos (by omega),if_neg (by omega)];rfl
theorem lf_nil (s n:Nat):lF s 0 n 0=[]:=by unfold lF A;rw[Nat.zero_min];rfl
theorem df_nil (s:Nat):dF s 0=[]:=by unfold dF;rw[Nat.zero_sub];rfl
theorem sz_small {l:List Ent} (ho:Ord l) (h:∀x∈l,Cn.small x.2=true):Big l∧Mid 20000 l∧∀x∈l,(entB x).length≤900000:=sz_all (N:=1) ho (λk c hc=>SzC.small (h _ (mem_get hc))) (by omega)
theorem a_small {m:Nat} {f:Nat→CartT} (h:∀j,j<m→Cn.small (f j)=true):∀x∈A m f,Cn.small x.2=true:=λx hx=>by
 obtain ⟨j,hj,rfl⟩:=a_mem hx;exact h j hj
theorem cR_small (n i j:Nat):Cn.small (cR n i j)=true:=by unfold cR;split<;>exact small_some _ _
def wF (many:Nat):List Ent:=A many λ_=>c7
theorem wf_snoc (i:Nat):wF (i+1)=wF i++[(K i,c7)]:=by unfold wF A;rw[List.range_succ,List.map_append];rfl
theorem wf_ord {many:Nat} (h:many≤300):Ord (wF many):=a_ord h λ_ _=>good_7
theorem wf_small (many:Nat):∀x∈wF many,Cn.small x.2=true:=a_small λ_ _=>small_some _ _
def eF (s many n:Nat):List Ent:=A many λj=>if j<s then cN n else c7
theorem ef_want {s many n:Nat}:lF s many (n+1) 0++(wF many).drop (min many s)=eF s many n:=by
 refine List.ext_getElem (by rw[List.length_append,List.length_drop,lf_len];unfold wF eF;rw[a_len,a_len];omega) λi h1 h2=>?_
 have h3:i<many:=by unfold eF at h2;rw[a_len] at h2;exact h2
 have e2:(eF s many n)[i]=(K i,if i<s then cN n else c7):=a_get h2;rw[e2,List.getElem_append]
 split
 ·rename_i h
  rw[lf_len] at h;have e:(lF s many (n+1) 0)[i]'(by rw[lf_len];exact h)=(K i,cR (n+1) 0 i):=a_get _;rw[e,if_pos (by omega)];unfold cR;rw[if_neg (by omega)]
  rfl
 ·rename_i h
  rw[lf_len] at h;rw[List.getElem_drop];have e:min many s+(i-min many s)=i:=by omega
  have e3:(wF many)[min many s+(i-(lF s many (n+1) 0).length)]'(by unfold wF;rw[a_len,lf_len];omega)=(K (min many s+(i-(lF s many (n+1) 0).length)),c7):=a_get _;rw[e3,lf_len,e,if_neg (by omega)]
theorem ef_good {s many n:Nat} (hn:n<4) (h1:1≤n):∀j,j<many→GoodC (if j<s then cN n else c7):=λj _=>by
 split
 ·exact good_n hn h1
 ·exact good_7
theorem ef_ord {s many n:Nat} (hm:many≤300) (hn:n<4) (h1:1≤n):Ord (eF s many n):=a_ord hm (ef_good hn h1)
theorem ef_small (s many n:Nat):∀x∈eF s many n,Cn.small x.2=true:=a_small λj _=>by split<;>exact small_some _ _
theorem lq_good {s many n:Nat} (hn:n<4) (h1:1≤n):∀j,j<min many s→GoodC (cR (n+1) 0 j):=λj _=>by
 unfold cR;rw[if_neg (by omega)];exact good_n hn h1
theorem lq_ord {s many n:Nat} (hm:many≤300) (hn:n<4) (h1:1≤n):Ord (lF s many (n+1) 0):=a_ord (by omega) (lq_good hn h1)
theorem byte_of {n:Nat}:((BitVec.ofInt 8 (n:Int)).toNat:Int)=((UInt8.ofNat n).toNat:Int):=by
 rw[BitVec.toNat_ofInt,UInt8.toNat_ofNat']
 omega
theorem ef_merge {s many n:Nat} (hm:many≤300) (hn:n<4) (h1:1≤n):merge (lF s many (n+1) 0) (picked (dF s many) (wF many))=eF s many n:=by
 have ho:=lq_ord (s:=s) hm hn h1;have hw:=wf_ord hm;have hp:=picked_ord hw (df_pw (s:=s) hm);refine a_eq (merge_ord ho hp) hm (ef_good hn h1) (λj hj=>?_) (λk hk=>?_)
 ·rw [merge_get ho hp,get_picked hw (df_pw hm)]
  unfold lF wF;rw[a_getK (by omega) (lq_good hn h1) hj,a_getK hm (λ_ _=>good_7) hj];have hd:K j∈dF s many↔s≤j∧j<many:=by
   rw[df_mem]
   constructor
   ·rintro ⟨i,q1,q2,e⟩
    rw[k_inj hj (by omega) e];exact ⟨q1,q2⟩
   ·rintro ⟨q1,q2⟩;exact ⟨j,q1,q2,rfl⟩
  by_cases q:j<many
  ·by_cases q2:j<s
   ·rw [if_pos (by omega),if_neg (λg=>by have:=hd.1 g;omega),oj_none,if_pos q,if_pos q2]
    unfold cR;rw[if_neg (by omega)]
    rfl
   ·rw [if_neg (show ¬j<min many s by omega),if_pos (hd.2 ⟨by omega,q⟩),if_pos q,if_pos q,if_neg q2]
    rfl
  ·rw [if_neg (show ¬j<min many s by omega),if_neg (λg=>by have:=hd.1 g;omega),if_neg q]
   rfl
 ·rw [merge_get ho hp,get_picked hw (df_pw hm)]
  unfold lF wF;rw[a_no (by omega) hk,a_no hm hk]
  split<;>rfl
theorem ef_drE {s many:Nat} (hm:many≤300):drE (dF s many) (wF many)=0:=by
 unfold drE;rw[if_neg (by rw[ord_iff.2 (wf_ord hm)];decide),if_neg (by
  rw[allIn_yes λi q=>by
   rw[df_get];have:=df_len s many;exact (a_keys hm (by omega)).2 (by omega)]
  decide)]
theorem ef_drL {s many n:Nat} (hm:many≤300) (hn:n<4) (h1:1≤n):drL (lF s many (n+1) 0) (dF s many) (wF many)=eF s many n:=by
 unfold drL;rw[if_pos (ef_drE hm),ef_merge hm hn h1]
def mm (p i m:Nat):Nat:=if p=1 then i else m
theorem mm_rd {p i m:Nat} (h:1≤p):Rd (mm p i m) p i m:=by
 unfold mm Rd
 by_cases q:p=1
 ·rw [if_pos q];exact .inl ⟨q,rfl⟩
 ·rw [if_neg q];exact .inr ⟨by omega,rfl⟩
theorem mm_le {p i m:Nat} (h:i≤m):mm p i m≤m:=by unfold mm;split<;>omega
def lR (s p i m:Nat):List Ent:=lF s (mm p i m) p i
def dR (s p i m:Nat):List Name:=dF s (mm p i m)
theorem lr_nil (s m:Nat):lR s 1 0 m=[]:=lf_nil s 1
theorem dr_nil (s m:Nat):dR s 1 0 m=[]:=df_nil s
theorem put_R {s p i m:Nat} (hp:1≤p) (hp4:p<4) (hi:i<m) (hm:m≤300):put (s:Int) (lR s p i m) (dR s p i m) (K i) (cN p)=(lR s p (i+1) m,dR s p (i+1) m):=by
 have h:=put_K (s:=s) (mm_rd (i:=i) (m:=m) hp) hp4 hi hm;have e:(if p=1 then i+1 else mm p i m)=mm p (i+1) m:=by
  unfold mm
  by_cases q:p=1
  ·rw [if_pos q,if_pos q]
  ·rw [if_neg q,if_neg q,if_neg q]
 rw[e] at h;exact h
theorem mm_all (p m:Nat):mm p m m=m:=by unfold mm;split<;>rfl
theorem mm_next {p m:Nat} (h:1≤p):mm (p+1) 0 m=m:=if_neg (by omega)
theorem lr_turn {s p m:Nat} (h:1≤p):lR s p m m=lR s (p+1) 0 m:=by unfold lR;rw[mm_all,mm_next h];exact lf_turn
theorem dr_turn {s p m:Nat} (h:1≤p):dR s p m m=dR s (p+1) 0 m:=by unfold dR;rw[mm_all,mm_next h]
theorem lr_last {s t m:Nat} (h:1≤t):lR s (t+1) 0 m=lF s m (t+1) 0:=by unfold lR;rw[mm_next h]
theorem dr_last {s t m:Nat} (h:1≤t):dR s (t+1) 0 m=dF s m:=by unfold dR;rw[mm_next h]
theorem lr_ord {s p i m:Nat} (hp:1≤p) (hp4:p<4) (hi:i≤m) (hm:m≤300):Ord (lR s p i m):=lf_ord (mm_rd hp) hp4 (by have:=mm_le (p:=p) hi;omega)
theorem dr_pw {s p i m:Nat} (hi:i≤m) (hm:m≤300):(dR s p i m).Pairwise BL:=df_pw (by have:=mm_le (p:=p) hi;omega)
theorem lr_len {s p i m:Nat} (hi:i≤m) (hm:m≤300):(lR s p i m).length≤10000:=by unfold lR;rw[lf_len];have:=mm_le (p:=p) hi;omega
theorem dr_len {s p i m:Nat} (hi:i≤m) (hm:m≤300):(dR s p i m).length≤10000:=by unfold dR;rw[df_len];have:=mm_le (p:=p) hi;omega
theorem lf_small (s m n i:Nat):∀x∈lF s m n i,Cn.small x.2=true:=a_small λj _=>cR_small n i j
theorem lr_sz {s p i m:Nat} (hp:1≤p) (hp4:p<4) (hi:i≤m) (hm:m≤300):Big (lR s p i m)∧Mid 20000 (lR s p i m):=by
 have h:=sz_small (lr_ord (s:=s) hp hp4 hi hm) (lf_small _ _ _ _);exact ⟨h.1,h.2.1⟩
theorem k_sz {i p:Nat} (hi:i<300) (hp:1≤p) (hp4:p<4):Big [(K i,cN p)]∧Mid 20000 [(K i,cN p)]:=by
 have h:=sz_small (one_ord (ok_K hi hp4 hp)) (λx hx=>by rw[List.mem_singleton.1 hx];exact small_some _ _);exact ⟨h.1,h.2.1⟩
end Go.Pn.Ob
end
