/-
 The frame of a walk, control and plain operations: the weakest precondition of the kit over frames that are functions of slots. No condition.
-/
import Derived.WalkKit
import Derived.WalkSpells
import Derived.WalkLawsBesides
import Derived.Laws.AppendOwnNone
import Derived.Great.BuildSlice
import Derived.OrdersHeld
import Derived.Laws.Externs
import Derived.Laws.Cells
import Derived.Laws.Tables
import Derived.Laws.StructEq
import Derived.Deep.Draws
import Derived.Sort.Grow
import Derived.Lib.IndexMore
import Derived.Lib.TrimByte
import Derived.Maps.RangeRun
import Derived.MapKept
import Derived.Lib.Bytealg
import Derived.ProofKit
import Derived.OpenShut
import Derived.WideKeyArgs
import Derived.LaidLaws
import Derived.Deep.DeepHandedRow
import Derived.Deep.DeepWitnessRowRef
import Derived.Lib.LaidTab
import Derived.Deep.Slices
import Derived.Lib.AppendZeros
import Derived.Lib.AppendStr
import Derived.Scope
import Derived.Shelf.SlSortCmp.WholeK
import Derived.Laws.RangeString
import Derived.ChangeKeysEq
import Derived.Shelf.SlSortCmp.Whole1
import Derived.Defers
import Derived.Recover
import Derived.RangeFuncLeaves
import Derived.RangeFuncSeq
import Derived.Laws.IdiomCopy
import Derived.Lib.AppendZerosOnto
import Derived.Lib.Overlaps
import Derived.Test.YtlgjaminfabchaaGreatDoorDigestM5
section
namespace Go.Pn
open Go.RowKit
section
variable {P:Program}{n:Nat}{N N':Val->World->Prop}{X:Nat->Val->World->Prop}{R:Val->World->Prop}{Z:List PanicEntry->World->Prop}{f:Val}{w:World}{a b c:Code}
end
section
variable {P:Program}{n:Nat}{N:Val->World->Prop}{X:Nat->Val->World->Prop}{Z:List PanicEntry->World->Prop}{f:Val}{w:World}
end
section
variable {P:Program}{n:Nat}{ops rest:List Oper}{N:Val->World->Prop}{Z:List PanicEntry->World->Prop}{f:Val}{w:World}
theorem argsN:([]:List Operand).map (ev n f)=[]:=rfl
end
end Go.Pn
end
section
namespace Go.Pn
open Go.RowKit
section
variable {P:Program}{n:Nat}{ops rest:List Oper}{N:Val->World->Prop}{Z:List PanicEntry->World->Prop}{f:Val}{w:World}
 {d:Nat}{x y:Operand}{t t' ty:TypeId}{pos:String}{after:Array Edge}
section
variable {a b:Int}
theorem O.mulI (hx:ev n f x=i64 a)(hy:ev n f y=i64 b)(hb:InI (a*b))(h:O P n ops rest N Z (upd f d (i64 (a*b))) w):
 O P n ops (ZO d (.binOp .mul t x y t') ty pos after::rest) N Z f w:=
 O.val rfl rfl (by simp[execOp,hx,hy,eqGuard,binOp,Op.intArith,wrap_in hb]) h
end
section
variable {k:IntKind}{m:Nat}{a b:BitVec m}
end
section
variable {k k':IntKind}{m m':Nat}
end
section
variable {a b:List UInt8}
end
end
end Go.Pn
end
section
namespace Go.Pn.Cn
open Go Go.Pn
section
variable {α:Type}{p:α->Bool}{l:List α}
end
section
variable {α:Type}{r:α->α->Bool}
end
theorem small_iff {a:Cart}(h:small a=true):a.1.1.length<=40∧a.1.2.length<=40∧a.2.length<=20∧∀x∈a.2,x.2.length<=20∧x.1.length<=100:=by
 unfold small at h;rw[Bool.and_eq_true,decide_eq_true_eq,List.all_eq_true] at h;refine ⟨h.1.1.1,h.1.1.2,h.1.2,λx hx=>?_⟩;have:=h.2 x hx;unfold smallI at this
 simpa using this
end Go.Pn.Cn
end
section
namespace Go.Pn.Cn
open Go Go.Pn
theorem getD_at {x:List UInt8}{k:Nat}(h:k<x.length):x.getD k 0=x[k]:=by rw[List.getD_eq_getElem?_getD,List.getElem?_eq_getElem h];rfl
end Go.Pn.Cn
end
section
namespace Go.Pn.Bt
open Go Go.Pn Go.Pn.Jn
theorem small_iff {l:List Ent}{most:Int}(h:small l most=true):(l.length:Int)<=most∧∀x∈l,x.1.length<=100∧Cn.small x.2=true:=by
 unfold small at h;rw[Bool.and_eq_true,decide_eq_true_iff,List.all_eq_true] at h;refine ⟨h.1,λx hx=>?_⟩;have:=h.2 x hx;unfold smallE at this;rw[Bool.and_eq_true,decide_eq_true_iff] at this;exact this
theorem small_big {x:Cart}(h:Cn.small x=true):Cn.big x:=by
 obtain ⟨h1,h2,h3,h4⟩:=Cn.small_iff h;exact ⟨by omega,by omega,by omega,λy hy=>by have:=h4 y hy;omega⟩
end Go.Pn.Bt
end
section
namespace Go.Pn.Dg
open Go Go.Pn
theorem bksP_at (l:List Leaf){k:Nat}(h:k<16):(bksP l (k+1))[k]'(by rw[bksP_len l (by omega)];exact h)=sum (part l k):=by
 have e:=bksP_set l h;have h2:k<((bksP l k).set k (sum (part l k))).length:=by rw[List.length_set,bksP_len l (by omega)];exact h
 have:((bksP l k).set k (sum (part l k)))[k]'h2=sum (part l k):=by simp
 simpa only[e] using this
theorem bks_take (l:List Leaf){k:Nat}(h:k<16):(bks l).take (k+1)=(bks l).take k++[sum (part l k)]:=by
 rw[List.take_succ_eq_append_getElem (by rw[bks_len];exact h),bks_at]
theorem bucket_eq (l:Str){k:Nat}(h:k<16):hash l%16#64=BitVec.ofInt 64 (k:Int)↔bucket l=k:=by
 have h1:(hash l%16#64).toNat=bucket l:=by rw[BitVec.toNat_umod];rfl
 have h2:(BitVec.ofInt 64 (k:Int)).toNat=k:=by
  rw[BitVec.toNat_ofInt]
  omega
 constructor
 ·intro q
  rw[<-h1,q,h2]
 ·intro q
  apply BitVec.eq_of_toNat_eq
  rw[h1,h2,q]
theorem part_take_yes (l:List Leaf){i k:Nat}(hi:i<l.length)(h:bucket l[i].1=k):part (l.take (i+1)) k=part (l.take i) k++[l[i].2]:=by
 rw[List.take_succ_eq_append_getElem hi,part_snoc,if_pos h]
theorem part_take_no (l:List Leaf){i k:Nat}(hi:i<l.length)(h:¬bucket l[i].1=k):part (l.take (i+1)) k=part (l.take i) k:=by
 rw[List.take_succ_eq_append_getElem hi,part_snoc,if_neg h,List.append_nil]
end Go.Pn.Dg
end
section
namespace Go.Pn
open Go.ChangeShapes Go.WideShapes Go.ChangeAt Go.RowKit
section
variable {H:Type}{enc:TypeId×Value->H}{P:Program}{W W':World}
theorem kept_of_le (e:Le W W')(may:MemPlace->Prop):W.keptBut W' may:=by
 refine ⟨e.os,e.output,λi hi=>?_⟩;rw[e.block i hi not_false];cases h:W.heap[i]? with
 |none=>rfl
 |some o=>cases o<;>first|exact ⟨rfl,rfl,rfl,λ_ _=>rfl⟩|exact .inr ⟨rfl,rfl⟩|rfl
theorem frozen_of_le (e:Le W W'){a:Addr}(h:a.block<W.heap.size):W'.frozen? a=W.frozen? a:=by
 unfold World.frozen?;rw[e.block _ h not_false]
theorem same_of_le (e:Le W W'){p:MemPlace}(h:p.block<W.heap.size):W.sameAt W' p:=by
 cases p with
 |cell b off=>show W'.cell? _=W.cell? _;unfold World.cell?;rw[e.block b h not_false]
 |map b=>exact e.block b h not_false
theorem args_of_le (hl:laidOutB P=true)(e:Le W W'){sp:Nat->Bool}:∀{ts:List TypeId} {vs:List Value} {ds:List (DataW H)} {ps:List MemPlace},
 (ts.all λt=>P.readableRec t&&decide (t<P.types.size))=true->DataW.TrodAll enc P W 0 (λ_=>true) true ts vs ds ps->(∀p∈ps,p.block<W.heap.size∧sp p.block=true)->DataW.TrodAll enc P W' 0 sp true ts vs ds ps
 |[],[],[],_,_,h,_=>h
 |[],[],_::_,_,_,h,_=>h.elim
 |[],_::_,[],_,_,h,_=>h.elim
 |[],_::_,_::_,_,_,h,_=>h.elim
 |_::_,[],[],_,_,h,_=>h.elim
 |_::_,[],_::_,_,_,h,_=>h.elim
 |_::_,_::_,[],_,_,h,_=>h.elim
 |_::_,_::_,_::_,_,ht,⟨p,q,h1,h2,e1⟩,hs=>by
  simp only[List.all_cons,Bool.and_eq_true,decide_eq_true_eq] at ht;subst e1;refine ⟨p,q,WideElems.Trod_stays hl ht.1.1 ht.1.2 h1 (λx hx=>same_of_le e (hs x (List.mem_append_left _ hx)).1) (λx hx=>(hs x (List.mem_append_left _ hx)).2),args_of_le hl e ?_ h2 (λx hx=>hs x (List.mem_append_right _ hx)),rfl⟩
  simpa using ht.2
theorem post_of_le {f:Func}{s:ChangeSpec}{fresh handsOn again:Bool}{args:Array Value}{ds gs:List (DataW H)}{before:List MemPlace}{tb:TypeId}
 (hl:laidOutB P=true)(hp:(f.params.toList.all λt=>P.readableRec t&&decide (t<P.types.size))=true)(hv:s.vars=[])(hr:f.resultTypes=#[tb])(hb:P.underlying tb=some .bool)
 (hW:DataW.Whole enc P f.params.toList s.vars false W args.toList ds gs before)(e:Le W W')
 (hs:s.fn H (ds++gs)={results:=[.lit (.bool true)],args:=ds}):s.post enc P f false fresh handsOn again W args (.bool true) W':=by
 have hlt:=hW.lt;have hW0:=hW;obtain ⟨p,q,hA,hV,rfl,hz,_⟩:=hW;rw[hv] at hV;obtain ⟨rfl,rfl⟩:=trodVars_none hV;have hres:∀(b:Nat) (sp:Nat->Bool) (hd:Bool),DataW.TrodAll enc P W' b sp hd f.resultTypes.toList ((Value.bool true).resultList f.resultTypes.size) (s.fn H (ds++[])).results []:=by
  intro b sp hd;rw[hs,hr];exact trodAll_cons_mk (shut_bool hb _) trodAll_mk0
 have hargs:∀sp:Nat->Bool,(∀x∈p,sp x.block=true)->DataW.TrodAll enc P W' 0 sp true f.params.toList args.toList (s.fn H (ds++[])).args p:=by
  intro sp hsp;rw[hs];exact args_of_le hl e hp hA λx hx=>⟨hlt x (by simpa using hx),hsp x hx⟩
 have hvars:∀sp:Nat->Bool,DataW.TrodVars enc P W' sp s.vars (s.fn H (ds++[])).vars []:=by
  intro sp;rw[hs,hv]
  rfl
 have hold:∀x∈p,(λb=>decide (b<W.heap.size)) x.block=true:=λx hx=>by simpa using hlt x (by simpa using hx)
 refine ⟨ds,[],p++[],[],p,[],hW0,hres _ _ _,hargs _ hold,hvars _,World.keptBut_mono (λx hx=>⟨hx,.inr (by simpa using hx)⟩) (kept_of_le e _),λ_=>?_⟩;refine ⟨ok_one hr rfl (okWide_bool_mk hb _),_,_,([]++p)++[],⟨[]++p,[],trodAll_append (hargs _ (λ_ _=>rfl)) (hres _ _ _),hvars _,rfl,?_,?_⟩,?_⟩
 ·intro b off hx
  have hx2:MemPlace.cell b off∈p:=by simpa using hx
  rw[frozen_of_le e (hlt _ (by simpa using hx2))];exact hz b off (by simpa using hx2)
 ·intro ha;cases ha
 ·intro x hx _
  simpa using hx
end
theorem calls_of {P:Program}{k:FuncId}{args:Array Value}{W:World}{Q:Value->World->Prop}(h:Ret P k args W λv w'=>v=.bool true∧Le W w')(hq:∀w',Le W w'->Q (.bool true) w'):
 Calls P k args W λe W'=>∃v,e=.returned v∧Q v W':=by
 refine Calls.mono h λe W' hh=>?_
 cases e with
 |returned v=>obtain ⟨rfl,e⟩:=hh;exact ⟨_,rfl,hq _ e⟩
 |_=>exact hh.elim
end Go.Pn
end
section
namespace Go.Pn
section
variable {w w':World}{F F' M:Nat->Prop}{r:(Raw×Raw)×Raw}{c:CartT}
end
section
variable {w w':World}{F F' M:Nat->Prop}{raw:List EntR}{l:List EntT}{v:Value}
theorem Sl.ents (h:Sl entE w F v l):∃raw,Sl entF.enc w F v raw∧EntL w F raw l:=by
 obtain ⟨rs,h1,h2,h3⟩:=Sl.raws (G:=entF) (R:=λr x=>r.1=x.1∧CartAt w F r.2 x.2) rfl (λcs x hr=>by
  obtain ⟨_,_,rfl,hs,_,_,rfl,⟨_,_,rfl,⟨va,rfl,hx⟩,vb,rfl,hy⟩,vc,rfl,hz⟩:=hr;obtain ⟨a1,rfl⟩:=hx.slv;obtain ⟨a2,rfl⟩:=hy.slv;obtain ⟨a3,rfl⟩:=hz.slv;have hs2:_=[str x.1]:=hs;subst hs2;exact ⟨(x.1,(a1,a2),a3),rfl,rfl,hx,hy,hz⟩) h
 exact ⟨rs,h1,h2,h3⟩
end
end Go.Pn
end
section
namespace Go.Pn.Bt
open Go Go.Pn Go.Pn.Jn
section
variable {l:List Ent}{most:Int}
theorem small_mid (h:small l most=true):Mid 20000 l:=λx hx=>by
 obtain ⟨h1,h2,h3,h4⟩:=Cn.small_iff ((small_iff h).2 x hx).2;exact ⟨by omega,by omega,by omega,λy hy=>by have:=h4 y hy;omega⟩
end
end Go.Pn.Bt
end
section
namespace Go.Pn.Dg
open Go Go.Pn
theorem syncM_len:∀(l m:List Ent),(syncM l m).length<=l.length+m.length
 |[],m=>by rw[syncM_nil];simp
 |x::l,[]=>by rw[syncM_nil2];simp
 |x::l,y::m=>by
  rw[syncM]
  split
  ·have:=syncM_len l (y::m)
   simp only[List.length_cons] at*
   omega
  ·split
   ·have:=syncM_len (x::l) m
    simp only[List.length_cons] at*
    omega
   ·have:=syncM_len l m
    simp only[List.length_cons] at*
    omega
termination_by l m=>l.length+m.length
end Go.Pn.Dg
end
section
namespace Go.Pn.Dg
open Go Go.Pn Go.Pn.Bt Go.Pn.Jn
def fb (l m:List Ent)(i k:Nat):Bool:=decide (l.length<=i)||Op.bytesLess (m.getD k ([],noC)).1 (l.getD i ([],noC)).1
theorem getD_at {l:List Ent}{i:Nat}(h:i<l.length):l.getD i ([],noC)=l[i]:=by rw[List.getD_eq_getElem?_getD,List.getElem?_eq_getElem h];rfl
section
variable {l m:List Ent}{i k:Nat}
theorem fa_end (h:m.length<=k):fa l m i k=true:=by unfold fa;rw[decide_eq_true h];rfl
theorem fa_no (h:¬m.length<=k)(h2:¬i<l.length):fa l m i k=false:=by unfold fa;rw[decide_eq_false h,decide_eq_false h2];rfl
theorem fa_at (hk:k<m.length)(hi:i<l.length):fa l m i k=Op.bytesLess l[i].1 m[k].1:=by
 unfold fa;rw[dF (show ¬m.length<=k by omega),decide_eq_true hi,getD_at hi,getD_at hk]
 rfl
theorem fb_end (h:l.length<=i):fb l m i k=true:=by unfold fb;rw[decide_eq_true h];rfl
theorem fb_at (hk:k<m.length)(hi:i<l.length):fb l m i k=Op.bytesLess m[k].1 l[i].1:=by
 unfold fb;rw[dF (show ¬l.length<=i by omega),getD_at hi,getD_at hk]
 rfl
theorem fa_yes (h:fa l m i k=true)(hne:i<l.length∨k<m.length):∃hi:i<l.length,syncM (l.drop i) (m.drop k)=[l[i]]++syncM (l.drop (i+1)) (m.drop k):=by
 by_cases hk:m.length<=k
 ·have hi:i<l.length:=by omega
  refine ⟨hi,?_⟩;rw[List.drop_of_length_le hk,syncM_nil2,syncM_nil2,List.drop_eq_getElem_cons hi]
  rfl
 ·have hi:i<l.length:=by
   by_cases q:i<l.length
   ·exact q
   ·rw [fa_no hk q] at h;cases h
  have hk2:k<m.length:=by omega
  refine ⟨hi,?_⟩;rw[fa_at hk2 hi] at h;rw[List.drop_eq_getElem_cons hi,List.drop_eq_getElem_cons hk2,syncM_a h]
theorem fa_k (h:fa l m i k=false):k<m.length:=by
 by_cases hk:m.length<=k
 ·rw [fa_end hk] at h;cases h
 ·omega
theorem fb_yes (h:fa l m i k=false)(h2:fb l m i k=true):∃hk:k<m.length,syncM (l.drop i) (m.drop k)=[m[k]]++syncM (l.drop i) (m.drop (k+1)):=by
 have hk:=fa_k h;refine ⟨hk,?_⟩
 by_cases hi:l.length<=i
 ·rw [List.drop_of_length_le hi,syncM_nil,syncM_nil,List.drop_eq_getElem_cons hk]
  rfl
 ·have hi2:i<l.length:=by omega
  rw[fa_at hk hi2] at h;rw[fb_at hk hi2] at h2;rw[List.drop_eq_getElem_cons hi2,List.drop_eq_getElem_cons hk,syncM_b h h2]
theorem fb_no (h:fa l m i k=false)(h2:fb l m i k=false):∃(hi:i<l.length) (hk:k<m.length),syncM (l.drop i) (m.drop k)=[(l[i].1,both l[i] m[k])]++syncM (l.drop (i+1)) (m.drop (k+1)):=by
 have hk:=fa_k h;have hi:i<l.length:=by
  by_cases q:l.length<=i
  ·rw [fb_end q] at h2;cases h2
  ·omega
 refine ⟨hi,hk,?_⟩;rw[fa_at hk hi] at h;rw[fb_at hk hi] at h2;rw[List.drop_eq_getElem_cons hi,List.drop_eq_getElem_cons hk,syncM_c h h2]
theorem sync_end (hi:¬i<l.length)(hk:¬k<m.length):syncM (l.drop i) (m.drop k)=[]:=by
 rw[List.drop_of_length_le (by omega),List.drop_of_length_le (by omega),syncM_nil]
end
theorem dig_at {l:List Ent}{i:Nat}(h:i<(dig l).ls.length)(h2:i<l.length):(dig l).ls[i]=leafOf l[i]:=List.getElem_map _
end Go.Pn.Dg
end
