/-
 The frame of a walk, control and plain operations: the weakest precondition of the kit over frames that are functions of slots. No condition.
-/
import Derived.WalkKit
import Derived.WalkSpells
import Derived.WalkLawsBesides
import Derived.Laws.AppendOwnNone
import Derived.Great.BuildSlice
import Derived.OrdersHeld
import Derived.Laws.Externs
import Derived.Laws.Cells
import Derived.Laws.Tables
import Derived.Laws.StructEq
import Derived.Deep.Draws
import Derived.Sort.Grow
import Derived.Lib.IndexMore
import Derived.Lib.TrimByte
import Derived.Maps.RangeRun
import Derived.MapKept
import Derived.Lib.Bytealg
import Derived.ProofKit
import Derived.OpenShut
import Derived.WideKeyArgs
import Derived.LaidLaws
import Derived.Deep.DeepHandedRow
import Derived.Deep.DeepWitnessRowRef
import Derived.Lib.LaidTab
import Derived.Deep.Slices
import Derived.Lib.AppendZeros
import Derived.Lib.AppendStr
import Derived.Scope
import Derived.Shelf.SlSortCmp.WholeK
import Derived.Laws.RangeString
import Derived.ChangeKeysEq
import Derived.Shelf.SlSortCmp.Whole1
import Derived.Defers
import Derived.Recover
import Derived.RangeFuncLeaves
import Derived.RangeFuncSeq
import Derived.Laws.IdiomCopy
import Derived.Lib.AppendZerosOnto
import Derived.Lib.Overlaps
import Derived.Test.YtlgjaminfabchaaGreatDoorDigestM5
variable {P:Go.Program}{n:Nat}{ops rest:List Go.Oper}{N:Go.Pn.Val->Go.World->Prop}{Z:List Go.PanicEntry->Go.World->Prop}{f:Go.Pn.Val}{w:Go.World}
section
namespace Go.Pn
open Go.RowKit
section
variable {P:Program}{n:Nat}{N N':Val->World->Prop}{X:Nat->Val->World->Prop}{R:Val->World->Prop}{Z:List PanicEntry->World->Prop}{f:Val}{w:World}{a b c:Code}
end
section
variable {P:Program}{n:Nat}{N:Val->World->Prop}{X:Nat->Val->World->Prop}{Z:List PanicEntry->World->Prop}{f:Val}{w:World}
end
section
theorem argsN:([]:List Operand).map (ev n f)=[]:=rfl
end
end Go.Pn
end
section
namespace Go.Pn
open Go.RowKit
section
variable
 {d:Nat}{x y:Operand}{t t' ty:TypeId}{pos:String}{after:Array Edge}
section
variable {a b:Int}
theorem O.remI (hx:ev n f x=i64 a)(hy:ev n f y=i64 b)(hb:0<=a∧0<b)(h:O P n ops rest N Z (upd f d (i64 (a%b))) w):
 O P n ops (ZO d (.binOp .rem t x y t') ty pos after::rest) N Z f w:=
 O.val rfl rfl (by
  have h1:b≠0:=by omega
  simp[execOp,hx,hy,eqGuard,binOp,Op.intDiv,h1,Int.tmod_eq_emod_of_nonneg hb.1]) h
end
section
variable {k:IntKind}{m:Nat}{a b:BitVec m}
end
section
variable {k k':IntKind}{m m':Nat}
theorem O.convUI {a:BitVec m}(ht:P.underlying t=some (.int k))(ht':P.underlying t'=some (.int .i64))(hx:ev n f x=.int k (a.toNat:Int))(hm:m<64)
 (h:O P n ops rest N Z (upd f d (i64 (a.toNat:Int))) w):
 O P n ops (ZO d (.convert t t' x) ty pos after::rest) N Z f w:=
 O.val rfl rfl (by
  have e:IntKind.i64.wrap (a.toNat:Int)=(a.toNat:Int):=by
   apply wrap_in
   have h1:=a.isLt;have h2:2^m<=2^63:=Nat.pow_le_pow_right (by decide) (by omega);unfold InI;omega
  simp[execOp,hx,convert,run_underlying ht,run_underlying ht',Conv.intToInt,e]) h
end
section
variable {a b:List UInt8}
end
end
end Go.Pn
end
section
namespace Go.Pn.Cn
open Go Go.Pn
section
variable {α:Type}{p:α->Bool}{l:List α}
end
section
variable {α:Type}{r:α->α->Bool}
end
theorem small_iff {a:Cart}(h:small a=true):a.1.1.length<=40∧a.1.2.length<=40∧a.2.length<=20∧∀x∈a.2,x.2.length<=20∧x.1.length<=100:=by
 unfold small at h;rw[Bool.and_eq_true,decide_eq_true_eq,List.all_eq_true] at h;refine ⟨h.1.1.1,h.1.1.2,h.1.2,λx hx=>?_⟩;have:=h.2 x hx;unfold smallI at this
 simpa using this
end Go.Pn.Cn
end
section
namespace Go.Pn.Jn
open Go Go.Pn Go.Pn.Cn
theorem ml_trans {a b c:Mark}(h:ML a b)(k:ML b c):ML a c:=by unfold ML at*;omega
section
variable {α:Type}[DecidableEq α]
end
end Go.Pn.Jn
end
section
namespace Go.Pn.Jn
open Go Go.Pn Go.Pn.Cn
theorem join_self {a:Cart}(ha:GoodC a):join a a=a:=by
 refine good_ext (join_good ha ha) ha (λd=>?_) λs m=>?_
 ·rw [join_has ha ha]
  exact or_self_iff
 ·rw [join_in ha ha]
  unfold JIn;rw[or_self_iff];exact ⟨λh=>h.1,λh=>⟨h,.inr ⟨m,h,rfl,ml_irrefl m⟩⟩⟩
theorem join_out {a b:Cart}(ha:GoodC a)(hb:GoodC b){s:Name}{m:Mark}:Stays (join a b) s m↔(ctxHas a.1 m.1=false∧ctxHas b.1 m.1=false)∨∃m',JIn a b s m'∧m'.1=m.1∧¬ML m m':=by
 unfold Stays;have h:ctxHas (join a b).1 m.1=false↔ctxHas a.1 m.1=false∧ctxHas b.1 m.1=false:=by
  have:=join_has ha hb m.1;cases h1:ctxHas (join a b).1 m.1<;>cases h2:ctxHas a.1 m.1<;>cases h3:ctxHas b.1 m.1<;>simp_all
 rw[h]
 constructor
 ·rintro (q|⟨m',q1,q2⟩)
  ·exact .inl q
  ·exact .inr ⟨m',(join_in ha hb s m').1 q1,q2⟩
 ·rintro (q|⟨m',q1,q2⟩)
  ·exact .inl q
  ·exact .inr ⟨m',(join_in ha hb s m').2 q1,q2⟩
theorem ml_le {a b c:Mark}(h:¬ML b a)(k:¬ML c b):¬ML c a:=λq=>by
 rcases ml_total a b with e|e|e
 ·exact k (ml_trans q e)
 ·rw [e] at q;exact k q
 ·exact h e
theorem jin_assoc {a b c:Cart}(ha:GoodC a)(hb:GoodC b)(hc:GoodC c){s:Name}{m:Mark}(h:JIn (join a b) c s m):JIn a (join b c) s m:=by
 unfold JIn at h;rw[join_in ha hb,join_out ha hb] at h;unfold JIn;rw[join_in hb hc,join_out hb hc];rcases h with ⟨h1,h2⟩|⟨h1,h2⟩
 ·rcases h1 with ⟨h1,h3⟩|⟨h1,h3⟩
  ·-- of a
   refine .inl ⟨h1,?_⟩;rcases h3 with h3|⟨n,n1,n2,n3⟩
   ·rcases h2 with h2|⟨p,p1,p2,p3⟩
    ·exact .inl ⟨h3,h2⟩
    ·exact .inr ⟨p,.inr ⟨p1,.inl (by rw[p2];exact h3)⟩,p2,p3⟩
   ·rcases h2 with h2|⟨p,p1,p2,p3⟩
    ·exact .inr ⟨n,.inl ⟨n1,.inl (by rw[n2];exact h2)⟩,n2,n3⟩
    ·by_cases q:ML n p
     ·exact .inr ⟨p,.inr ⟨p1,.inr ⟨n,n1,n2.trans p2.symm,λk=>ml_irrefl _ (ml_trans q k)⟩⟩,p2,p3⟩
     ·exact .inr ⟨n,.inl ⟨n1,.inr ⟨p,p1,p2.trans n2.symm,q⟩⟩,n2,n3⟩
  ·-- of b
   refine .inr ⟨.inl ⟨h1,h2⟩,h3⟩
 ·-- of c
  rcases h2 with ⟨h2,h3⟩|⟨n,n1,n2,n3⟩
  ·exact .inr ⟨.inr ⟨h1,.inl h3⟩,.inl h2⟩
  ·rcases n1 with ⟨n1,k⟩|⟨n1,k⟩
   ·rcases k with k|⟨p,p1,p2,p3⟩
    ·exact .inr ⟨.inr ⟨h1,.inl (by rw[<-n2];exact k)⟩,.inr ⟨n,n1,n2,n3⟩⟩
    ·exact .inr ⟨.inr ⟨h1,.inr ⟨p,p1,p2.trans n2,ml_le p3 n3⟩⟩,.inr ⟨n,n1,n2,n3⟩⟩
   ·rcases k with k|⟨p,p1,p2,p3⟩
    ·exact .inr ⟨.inr ⟨h1,.inr ⟨n,n1,n2,n3⟩⟩,.inl (by rw[<-n2];exact k)⟩
    ·exact .inr ⟨.inr ⟨h1,.inr ⟨n,n1,n2,n3⟩⟩,.inr ⟨p,p1,p2.trans n2,ml_le p3 n3⟩⟩
theorem jin_comm {a b:Cart}{s:Name}{m:Mark}:JIn a b s m↔JIn b a s m:=or_comm
theorem join_assoc {a b c:Cart}(ha:GoodC a)(hb:GoodC b)(hc:GoodC c):join (join a b) c=join a (join b c):=by
 have hab:=join_good ha hb;have hbc:=join_good hb hc;refine good_ext (join_good hab hc) (join_good ha hbc) (λd=>?_) λs m=>?_
 ·rw [join_has hab hc,join_has ha hb,join_has ha hbc,join_has hb hc]
  exact or_assoc
 ·rw [join_in hab hc,join_in ha hbc]
  refine ⟨jin_assoc ha hb hc,λh=>?_⟩;have h1:JIn (join b c) a s m:=jin_comm.1 h;rw[join_comm hb hc] at h1;have h2:=jin_comm.1 (jin_assoc hc hb ha h1);rw[join_comm hb ha] at h2;exact h2
theorem join_left {a b:Cart}(ha:GoodC a)(hb:GoodC b):join a (join a b)=join a b:=by rw[<-join_assoc ha ha hb,join_self ha]
end Go.Pn.Jn
end
section
namespace Go.Pn.Cn
open Go Go.Pn
theorem getD_at {x:List UInt8}{k:Nat}(h:k<x.length):x.getD k 0=x[k]:=by rw[List.getD_eq_getElem?_getD,List.getElem?_eq_getElem h];rfl
end Go.Pn.Cn
end
section
namespace Go.Pn.Crc
theorem part_set (k:Nat)(_h:k<256):(part k).set k (.int .u32 ((tab k).toNat:Int))=part (k+1):=by
 apply List.ext_getElem?
 intro i;simp only[part,List.getElem?_set,List.getElem?_map,List.length_map,List.length_range]
 by_cases hi:i<256
 ·by_cases hk:k=i
  ·subst hk;simp[hi]
  ·have:i<k+1↔i<k:=by omega
   simp[hi,hk,this]
 ·rw [List.getElem?_eq_none (by simp;omega)]
  by_cases hk:k=i<;>simp[hk,hi]
end Go.Pn.Crc
end
section
namespace Go.Pn.Bt
open Go Go.Pn Go.Pn.Jn
theorem small_iff {l:List Ent}{most:Int}(h:small l most=true):(l.length:Int)<=most∧∀x∈l,x.1.length<=100∧Cn.small x.2=true:=by
 unfold small at h;rw[Bool.and_eq_true,decide_eq_true_iff,List.all_eq_true] at h;refine ⟨h.1,λx hx=>?_⟩;have:=h.2 x hx;unfold smallE at this;rw[Bool.and_eq_true,decide_eq_true_iff] at this;exact this
theorem small_big {x:Cart}(h:Cn.small x=true):Cn.big x:=by
 obtain ⟨h1,h2,h3,h4⟩:=Cn.small_iff h;exact ⟨by omega,by omega,by omega,λy hy=>by have:=h4 y hy;omega⟩
end Go.Pn.Bt
end
section
namespace Go.Pn.Dg
open Go Go.Pn
theorem dig_ext {a b:Dig}(h1:a.ls=b.ls)(h2:a.bs=b.bs)(h3:a.rt=b.rt):a=b:=by
 cases a;cases b;simp_all
end Go.Pn.Dg
end
section
namespace Go.Pn
open Go.ChangeShapes Go.WideShapes Go.ChangeAt Go.RowKit
section
variable {H:Type}{enc:TypeId×Value->H}{P:Program}{W W':World}
theorem kept_of_le (e:Le W W')(may:MemPlace->Prop):W.keptBut W' may:=by
 refine ⟨e.os,e.output,λi hi=>?_⟩;rw[e.block i hi not_false];cases h:W.heap[i]? with
 |none=>rfl
 |some o=>cases o<;>first|exact ⟨rfl,rfl,rfl,λ_ _=>rfl⟩|exact .inr ⟨rfl,rfl⟩|rfl
theorem frozen_of_le (e:Le W W'){a:Addr}(h:a.block<W.heap.size):W'.frozen? a=W.frozen? a:=by
 unfold World.frozen?;rw[e.block _ h not_false]
theorem same_of_le (e:Le W W'){p:MemPlace}(h:p.block<W.heap.size):W.sameAt W' p:=by
 cases p with
 |cell b off=>show W'.cell? _=W.cell? _;unfold World.cell?;rw[e.block b h not_false]
 |map b=>exact e.block b h not_false
theorem args_of_le (hl:laidOutB P=true)(e:Le W W'){sp:Nat->Bool}:∀{ts:List TypeId} {vs:List Value} {ds:List (DataW H)} {ps:List MemPlace},
 (ts.all λt=>P.readableRec t&&decide (t<P.types.size))=true->DataW.TrodAll enc P W 0 (λ_=>true) true ts vs ds ps->(∀p∈ps,p.block<W.heap.size∧sp p.block=true)->DataW.TrodAll enc P W' 0 sp true ts vs ds ps
 |[],[],[],_,_,h,_=>h
 |[],[],_::_,_,_,h,_=>h.elim
 |[],_::_,[],_,_,h,_=>h.elim
 |[],_::_,_::_,_,_,h,_=>h.elim
 |_::_,[],[],_,_,h,_=>h.elim
 |_::_,[],_::_,_,_,h,_=>h.elim
 |_::_,_::_,[],_,_,h,_=>h.elim
 |_::_,_::_,_::_,_,ht,⟨p,q,h1,h2,e1⟩,hs=>by
  simp only[List.all_cons,Bool.and_eq_true,decide_eq_true_eq] at ht;subst e1;refine ⟨p,q,WideElems.Trod_stays hl ht.1.1 ht.1.2 h1 (λx hx=>same_of_le e (hs x (List.mem_append_left _ hx)).1) (λx hx=>(hs x (List.mem_append_left _ hx)).2),args_of_le hl e ?_ h2 (λx hx=>hs x (List.mem_append_right _ hx)),rfl⟩
  simpa using ht.2
theorem post_of_le {f:Func}{s:ChangeSpec}{fresh handsOn again:Bool}{args:Array Value}{ds gs:List (DataW H)}{before:List MemPlace}{tb:TypeId}
 (hl:laidOutB P=true)(hp:(f.params.toList.all λt=>P.readableRec t&&decide (t<P.types.size))=true)(hv:s.vars=[])(hr:f.resultTypes=#[tb])(hb:P.underlying tb=some .bool)
 (hW:DataW.Whole enc P f.params.toList s.vars false W args.toList ds gs before)(e:Le W W')
 (hs:s.fn H (ds++gs)={results:=[.lit (.bool true)],args:=ds}):s.post enc P f false fresh handsOn again W args (.bool true) W':=by
 have hlt:=hW.lt;have hW0:=hW;obtain ⟨p,q,hA,hV,rfl,hz,_⟩:=hW;rw[hv] at hV;obtain ⟨rfl,rfl⟩:=trodVars_none hV;have hres:∀(b:Nat) (sp:Nat->Bool) (hd:Bool),DataW.TrodAll enc P W' b sp hd f.resultTypes.toList ((Value.bool true).resultList f.resultTypes.size) (s.fn H (ds++[])).results []:=by
  intro b sp hd;rw[hs,hr];exact trodAll_cons_mk (shut_bool hb _) trodAll_mk0
 have hargs:∀sp:Nat->Bool,(∀x∈p,sp x.block=true)->DataW.TrodAll enc P W' 0 sp true f.params.toList args.toList (s.fn H (ds++[])).args p:=by
  intro sp hsp;rw[hs];exact args_of_le hl e hp hA λx hx=>⟨hlt x (by simpa using hx),hsp x hx⟩
 have hvars:∀sp:Nat->Bool,DataW.TrodVars enc P W' sp s.vars (s.fn H (ds++[])).vars []:=by
  intro sp;rw[hs,hv]
  rfl
 have hold:∀x∈p,(λb=>decide (b<W.heap.size)) x.block=true:=λx hx=>by simpa using hlt x (by simpa using hx)
 refine ⟨ds,[],p++[],[],p,[],hW0,hres _ _ _,hargs _ hold,hvars _,World.keptBut_mono (λx hx=>⟨hx,.inr (by simpa using hx)⟩) (kept_of_le e _),λ_=>?_⟩;refine ⟨ok_one hr rfl (okWide_bool_mk hb _),_,_,([]++p)++[],⟨[]++p,[],trodAll_append (hargs _ (λ_ _=>rfl)) (hres _ _ _),hvars _,rfl,?_,?_⟩,?_⟩
 ·intro b off hx
  have hx2:MemPlace.cell b off∈p:=by simpa using hx
  rw[frozen_of_le e (hlt _ (by simpa using hx2))];exact hz b off (by simpa using hx2)
 ·intro ha;cases ha
 ·intro x hx _
  simpa using hx
theorem u_of {t:TypeId}{base m:Nat}{k:IntKind}{v:Value}{d:DataW H}{p:List MemPlace}(ht:P.underlying t=some (.int k))(hk:k.min=0)(hk2:k.max=2^m-1)(hval:Value.okWide P W .any base t v)(h:DataW.Trod enc P W 0 (λ_=>true) true t v d p):
 ∃x:BitVec m,v=.int k (x.toNat:Int):=by
 obtain ⟨z,rfl,_,_,hw⟩:=open_int ht hval h;simp only[Lit.wf,Bool.and_eq_true,decide_eq_true_eq] at hw;refine ⟨BitVec.ofInt m z,?_⟩
 congr 1
 rw[BitVec.toNat_ofInt];have h1:(2^m:Int)=((2^m:Nat):Int):=by norm_cast
 have hp:0<2^m:=Nat.pow_pos (by decide);rw[Int.emod_eq_of_lt (by omega) (by omega)]
 omega
end
theorem calls_of {P:Program}{k:FuncId}{args:Array Value}{W:World}{Q:Value->World->Prop}(h:Ret P k args W λv w'=>v=.bool true∧Le W w')(hq:∀w',Le W w'->Q (.bool true) w'):
 Calls P k args W λe W'=>∃v,e=.returned v∧Q v W':=by
 refine Calls.mono h λe W' hh=>?_
 cases e with
 |returned v=>obtain ⟨rfl,e⟩:=hh;exact ⟨_,rfl,hq _ e⟩
 |_=>exact hh.elim
end Go.Pn
end
section
namespace Go.Pn
section
variable {w w':World}{F F' M:Nat->Prop}{r:(Raw×Raw)×Raw}{c:CartT}
end
section
variable {w w':World}{F F' M:Nat->Prop}{raw:List EntR}{l:List EntT}{v:Value}
theorem Sl.ents (h:Sl entE w F v l):∃raw,Sl entF.enc w F v raw∧EntL w F raw l:=by
 obtain ⟨rs,h1,h2,h3⟩:=Sl.raws (G:=entF) (R:=λr x=>r.1=x.1∧CartAt w F r.2 x.2) rfl (λcs x hr=>by
  obtain ⟨_,_,rfl,hs,_,_,rfl,⟨_,_,rfl,⟨va,rfl,hx⟩,vb,rfl,hy⟩,vc,rfl,hz⟩:=hr;obtain ⟨a1,rfl⟩:=hx.slv;obtain ⟨a2,rfl⟩:=hy.slv;obtain ⟨a3,rfl⟩:=hz.slv;have hs2:_=[str x.1]:=hs;subst hs2;exact ⟨(x.1,(a1,a2),a3),rfl,rfl,hx,hy,hz⟩) h
 exact ⟨rs,h1,h2,h3⟩
end
end Go.Pn
end
section
namespace Go.Pn
open Go.RowKit
section
variable {v:Value}{bs:List (BitVec 64)}{r:BitVec 64}
end
section
variable
 {d:Nat}{x y:Operand}{t t' tr e:TypeId}{pos:String}{after:Array Edge}
theorem O.neqAr {len:Nat}{ti:TypeInfo}{a b:List (BitVec 64)}(ht:P.underlying t=some (.array len e))(he:P.underlying e=some (.int .u64))(hi:P.info? e=some ti)(hc:P.cellsOf e=1)(hag:∀w,(isAgg e).run P w=.ok false w)(hm:P.eqGuardType P.depth t=false)
 (hx:ev n f x=.agg (a.map u6).toArray)(hy:ev n f y=.agg (b.map u6).toArray)(ha:a.length=len)(hb:b.length=len)(h:O P n ops rest N Z (upd f d (.bool (decide (a≠b)))) w):
 O P n ops (ZO d (.binOp .neq t x y t') tr pos after::rest) N Z f w:=
 O.val rfl rfl (run_bin hx hy (run_eqGuard_agg w _ _ _ _ _ _ hm) (by rw[run_neq_struct,run_eq_arr ht he hi hc hag a b ha hb];simp[Result.andThen]) _ _) h
end
section
variable
 {d:Nat}{x y:Operand}{t t' tr:TypeId}{pos:String}{after:Array Edge}
theorem run_eq_leaf {f0 f1:Field} (ht:P.underlying t=some (.struct #[f0,f1])) (n0:f0.name≠ "_") (n1:f1.name≠ "_") (o0:f0.offset=0) (o1:f1.offset=1) (u0:P.underlying f0.type=some .string) (u1:P.underlying f1.type=some (.int .u64))
 (a0:∀w,(isAgg f0.type).run P w=.ok false w) (a1:∀w,(isAgg f1.type).run P w=.ok false w) (hp:P.stoodInHeld t=false) (a b:List UInt8×BitVec 64):
 (Op.equalIn 10000 t (.agg #[str a.1,.int .u64 (a.2.toNat:Int)]) (.agg #[str b.1,.int .u64 (b.2.toNat:Int)])).run P w=.ok (decide (a=b)) w:=by
 have hf:P.fieldsOf t=#[f0,f1]:=by unfold Program.fieldsOf;rw[ht]
 rw[run_equalIn_struct w 9999 t _ _ (by rw[hf];exact ht) hp,hf];have e0:∀w,(Op.equalIn 9999 f0.type (str a.1) (str b.1)).run P w=.ok (decide (a.1=b.1)) w:=λw=>by
  have h:=run_equalIn_string (P:=P) w 9998 f0.type ⟨a.1.toArray⟩ ⟨b.1.toArray⟩ u0;rw[ByteArray.toList_eq,ByteArray.toList_eq] at h;refine h.trans ?_
  congr 1
  show (a.1==b.1)=_
  by_cases q:a.1=b.1<;>simp[q]
 have e1:∀w,(Op.equalIn 9999 f1.type (.int .u64 (a.2.toNat:Int)) (.int .u64 (b.2.toNat:Int))).run P w=.ok ((a.2.toNat:Int)==(b.2.toNat:Int)) w:=λw=>run_equalIn_int w 9998 f1.type .u64 .u64 _ _ u1
 simp only[Op.eqFields,n0,n1,ne_eq,not_false_eq_true,if_true,Sem.run_bind,part,a0,Result.andThen_ok,Bool.false_eq_true,if_false,o0,o1];simp only[show (#[str a.1,Value.int .u64 (a.2.toNat:Int)])[0]? =some (str a.1) from rfl,show (#[str a.1,Value.int .u64 (a.2.toNat:Int)])[1]? =some (Value.int .u64 (a.2.toNat:Int)) from rfl,
  show (#[str b.1,Value.int .u64 (b.2.toNat:Int)])[0]? =some (str b.1) from rfl,show (#[str b.1,Value.int .u64 (b.2.toNat:Int)])[1]? =some (Value.int .u64 (b.2.toNat:Int)) from rfl,Sem.run_pure,Result.andThen_ok,e0,Sem.run_ite]
 by_cases h1:a.1=b.1
 ·by_cases h2:a.2=b.2
  ·obtain rfl:a=b:=Prod.ext h1 h2
   simp[e1,a1]
  ·have h:¬a=b:=λh=>h2 (by rw[h])
   have h3:((a.2.toNat:Int)==(b.2.toNat:Int))=false:=by
    have h4:¬((a.2.toNat:Int)=(b.2.toNat:Int)):=λq=>h2 (BitVec.eq_of_toNat_eq (by omega))
    simpa using h4
   simp[e1,h,a1,h3,h1]
 ·have h:¬a=b:=λh=>h1 (by rw[h])
  simp[h1,h]
theorem O.neqLf {f0 f1:Field} {a b:List UInt8×BitVec 64} (ht:P.underlying t=some (.struct #[f0,f1])) (n0:f0.name≠ "_") (n1:f1.name≠ "_") (o0:f0.offset=0) (o1:f1.offset=1) (u0:P.underlying f0.type=some .string) (u1:P.underlying f1.type=some (.int .u64))
 (a0:∀w,(isAgg f0.type).run P w=.ok false w) (a1:∀w,(isAgg f1.type).run P w=.ok false w) (hp:P.stoodInHeld t=false) (hm:P.eqGuardType P.depth t=false)
 (hx:ev n f x=.agg #[str a.1,.int .u64 (a.2.toNat:Int)]) (hy:ev n f y=.agg #[str b.1,.int .u64 (b.2.toNat:Int)]) (h:O P n ops rest N Z (upd f d (.bool (decide (a≠b)))) w):
 O P n ops (ZO d (.binOp .neq t x y t') tr pos after::rest) N Z f w:=
 O.val rfl rfl (run_bin hx hy (run_eqGuard_agg w _ _ _ _ _ _ hm) (by rw[run_neq_struct,run_eq_leaf ht n0 n1 o0 o1 u0 u1 a0 a1 hp];simp[Result.andThen]) _ _) h
end
section
variable {ty ta:TypeId}{B b:Nat}{w w' w'':World}{ps:List Value}{ls:List (List (BitVec 64))}
end
end Go.Pn
end
section
namespace Go.Pn.Bt
open Go Go.Pn Go.Pn.Jn
section
variable {l:List Ent}{most:Int}
theorem small_mid (h:small l most=true):Mid 20000 l:=λx hx=>by
 obtain ⟨h1,h2,h3,h4⟩:=Cn.small_iff ((small_iff h).2 x hx).2;exact ⟨by omega,by omega,by omega,λy hy=>by have:=h4 y hy;omega⟩
end
end Go.Pn.Bt
end
section
namespace Go.Pn.Dg
open Go Go.Pn
theorem syncM_len:∀(l m:List Ent),(syncM l m).length<=l.length+m.length
 |[],m=>by rw[syncM_nil];simp
 |x::l,[]=>by rw[syncM_nil2];simp
 |x::l,y::m=>by
  rw[syncM]
  split
  ·have:=syncM_len l (y::m)
   simp only[List.length_cons] at*
   omega
  ·split
   ·have:=syncM_len (x::l) m
    simp only[List.length_cons] at*
    omega
   ·have:=syncM_len l m
    simp only[List.length_cons] at*
    omega
termination_by l m=>l.length+m.length
end Go.Pn.Dg
end
section
namespace Go.Pn.Dg
open Go Go.Pn Go.Pn.Bt Go.Pn.Jn
theorem getD_at {l:List Ent}{i:Nat}(h:i<l.length):l.getD i ([],noC)=l[i]:=by rw[List.getD_eq_getElem?_getD,List.getElem?_eq_getElem h];rfl
section
variable {l m:List Ent}{i k:Nat}
end
end Go.Pn.Dg
end
