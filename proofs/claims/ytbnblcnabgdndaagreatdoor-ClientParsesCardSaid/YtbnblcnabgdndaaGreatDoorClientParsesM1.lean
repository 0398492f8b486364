/-
 The frame of a walk, control and plain operations: the weakest precondition of the kit over frames that are functions of slots. No condition.
-/
import Derived.WalkKit
import Derived.WalkSpells
import Derived.WalkLawsBesides
import Derived.Laws.AppendOwnNone
import Derived.Great.BuildSlice
import Derived.OrdersHeld
import Derived.Laws.Externs
import Derived.Laws.Cells
import Derived.Laws.Tables
import Derived.Laws.StructEq
import Derived.Deep.Draws
import Derived.Sort.Grow
import Derived.Maps.RangeRun
import Derived.MapKept
import Derived.Laws.RangeString
import Derived.ProofKit
import Derived.OpenShut
import Derived.WideKeyArgs
import Derived.LaidLaws
import Derived.Deep.DeepHandedRow
import Derived.Deep.DeepWitnessRowRef
import Derived.Lib.LaidTab
import Derived.Deep.Slices
import Derived.Lib.AppendZeros
import Derived.Lib.AppendStr
import Derived.Lib.IndexMore
import Derived.Lib.TrimByte
import Derived.Lib.ItoaMem
import Derived.Lib.AtoiAllCases
import Derived.Lib.Bytealg
import Derived.Lib.Join
import Derived.Lib.IndexLaws
import Derived.Scope
import Derived.Lib.SplitLaws
import Derived.Shelf.Strings.Builder1
import Derived.Shelf.Strings.Builder2
import Derived.Shelf.Strings.OnBuilder
import Derived.Shelf.Small.Strs
import Derived.Shelf.Strings.BuilderF
import Derived.Shelf.Strings.BuilderK
import Derived.Shelf.Utf8.RuneCount
import Derived.Shelf.Strings.Builder2Cap
import Derived.Shelf.Strconv.Atoi
import Derived.Shelf.Strconv.Itoa0
import Derived.Shelf.Strconv.Itoa1
import Derived.Shelf.LaysM
import Derived.Shelf.Strconv.Itoa2
import Derived.Shelf.Strconv.Itoa3
import Derived.Shelf.Strconv.AtoiErrFast
import Derived.Shelf.Strconv.ParseIntEmpty
import Derived.Shelf.Strconv.AtoiFail
import Derived.Shelf.Strconv.Clone
import Derived.Shelf.Strconv.SyntaxError
import Derived.Shelf.LaysC
import Derived.Shelf.Strconv.ToError
import Derived.Shelf.Strconv.Lower
import Derived.Shelf.Strconv.ParseUint10
import Derived.Shelf.Strconv.ParseUint10Empty
import Derived.Shelf.Strconv.ParseUint10Any
import Derived.Shelf.Strconv.ParseInt10
import Derived.Shelf.Strconv.AtoiLong
import Derived.Shelf.Strconv.AtoiInnerAll
import Derived.Shelf.Strconv.RangeError
import Derived.Shelf.Strconv.ToErrorRange
import Derived.Shelf.Strconv.AtoiAll
import Derived.Shelf.Strconv.ErrVarAll
import Derived.Shelf.Strings.Search1
import Derived.Shelf.Strings.Search2
import Derived.Shelf.Strings.Search3
import Derived.Shelf.Strings.Cut
import Derived.Shelf.Strings.Count
import Derived.Shelf.Strings.Shaped
import Derived.Shelf.Strings.Prefix
import Derived.Shelf.Strings.Split
import Derived.Shelf.Strings.SplitShaped
import Derived.Shelf.Unicode.Decode
import Derived.Shelf.Strings.RuneCount
import Derived.Shelf.Strings.Explode
import Derived.Shelf.Unicode.DecodeSlow
import Derived.Shelf.Unicode.DecodeAny
import Derived.Shelf.Strings.BuilderCap
import Derived.Test.YtbnblcnabgdndaaGreatDoorProg
import Derived.Lib.SmallJoins
import Derived.Test.YtbnblcnabgdndaaGreatDoorCards
import Derived.Test.YtbnblcnabgdndaaGreatDoorTie
import Derived.Test.YtbnblcnabgdndaaGreatDoorClientM5
section
namespace Go.Pn
open Go.RowKit
section
variable {P:Program}{n:Nat}{N N':Val->World->Prop}{X:Nat->Val->World->Prop}{R:Val->World->Prop}{Z:List PanicEntry->World->Prop}{f:Val}{w:World}{a b c:Code}
end
section
variable {P:Program}{n:Nat}{N:Val->World->Prop}{X:Nat->Val->World->Prop}{Z:List PanicEntry->World->Prop}{f:Val}{w:World}
end
section
variable {P:Program}{n:Nat}{ops rest:List Oper}{N:Val->World->Prop}{Z:List PanicEntry->World->Prop}{f:Val}{w:World}
theorem argsN:([]:List Operand).map (ev n f)=[]:=rfl
end
end Go.Pn
end
section
namespace Go.Pn
section
variable {P:Program}{n:Nat}{ops rest l:List Oper}{N:Val->World->Prop}{Z:List PanicEntry->World->Prop}{f:Val}{w wB:World}
 {d:Nat}{x y:Operand}{t t' e tr ty:TypeId}{pos:String}{after:Array Edge}{α:Type}{E:Enc α}{F:Nat->Prop}
theorem D.split {listed:Array Bool}{fuel:Nat}{b:Bool}(hx:ev n f x=.bool b)(h1:b=true->D P n l listed N Z wB fuel f w)(h2:b=false->D P n l listed N Z wB fuel f w):D P n l listed N Z wB fuel f w:=by
 cases b
 ·exact h2 rfl
 ·exact h1 rfl
variable {a b:BitVec 64}
end
end Go.Pn
end
section
namespace Go.Pn
open Go.ChangeShapes Go.WideShapes Go.ChangeAt Go.RowKit
section
variable {H:Type}{enc:TypeId×Value->H}{P:Program}{W W':World}
theorem kept_of_le (e:Le W W')(may:MemPlace->Prop):W.keptBut W' may:=by
 refine ⟨e.os,e.output,λi hi=>?_⟩;rw[e.block i hi not_false];cases h:W.heap[i]? with
 |none=>rfl
 |some o=>cases o<;>first|exact ⟨rfl,rfl,rfl,λ_ _=>rfl⟩|exact .inr ⟨rfl,rfl⟩|rfl
theorem frozen_of_le (e:Le W W'){a:Addr}(h:a.block<W.heap.size):W'.frozen? a=W.frozen? a:=by
 unfold World.frozen?;rw[e.block _ h not_false]
theorem same_of_le (e:Le W W'){p:MemPlace}(h:p.block<W.heap.size):W.sameAt W' p:=by
 cases p with
 |cell b off=>show W'.cell? _=W.cell? _;unfold World.cell?;rw[e.block b h not_false]
 |map b=>exact e.block b h not_false
theorem args_of_le (hl:laidOutB P=true)(e:Le W W'){sp:Nat->Bool}:∀{ts:List TypeId} {vs:List Value} {ds:List (DataW H)} {ps:List MemPlace},
 (ts.all λt=>P.readableRec t&&decide (t<P.types.size))=true->DataW.TrodAll enc P W 0 (λ_=>true) true ts vs ds ps->(∀p∈ps,p.block<W.heap.size∧sp p.block=true)->DataW.TrodAll enc P W' 0 sp true ts vs ds ps
 |[],[],[],_,_,h,_=>h
 |[],[],_::_,_,_,h,_=>h.elim
 |[],_::_,[],_,_,h,_=>h.elim
 |[],_::_,_::_,_,_,h,_=>h.elim
 |_::_,[],[],_,_,h,_=>h.elim
 |_::_,[],_::_,_,_,h,_=>h.elim
 |_::_,_::_,[],_,_,h,_=>h.elim
 |_::_,_::_,_::_,_,ht,⟨p,q,h1,h2,e1⟩,hs=>by
  simp only[List.all_cons,Bool.and_eq_true,decide_eq_true_eq] at ht;subst e1;refine ⟨p,q,WideElems.Trod_stays hl ht.1.1 ht.1.2 h1 (λx hx=>same_of_le e (hs x (List.mem_append_left _ hx)).1) (λx hx=>(hs x (List.mem_append_left _ hx)).2),args_of_le hl e ?_ h2 (λx hx=>hs x (List.mem_append_right _ hx)),rfl⟩
  simpa using ht.2
theorem post_of_le {f:Func}{s:ChangeSpec}{fresh handsOn again:Bool}{args:Array Value}{ds gs:List (DataW H)}{before:List MemPlace}{tb:TypeId}
 (hl:laidOutB P=true)(hp:(f.params.toList.all λt=>P.readableRec t&&decide (t<P.types.size))=true)(hv:s.vars=[])(hr:f.resultTypes=#[tb])(hb:P.underlying tb=some .bool)
 (hW:DataW.Whole enc P f.params.toList s.vars false W args.toList ds gs before)(e:Le W W')
 (hs:s.fn H (ds++gs)={results:=[.lit (.bool true)],args:=ds}):s.post enc P f false fresh handsOn again W args (.bool true) W':=by
 have hlt:=hW.lt;have hW0:=hW;obtain ⟨p,q,hA,hV,rfl,hz,_⟩:=hW;rw[hv] at hV;obtain ⟨rfl,rfl⟩:=trodVars_none hV;have hres:∀(b:Nat) (sp:Nat->Bool) (hd:Bool),DataW.TrodAll enc P W' b sp hd f.resultTypes.toList ((Value.bool true).resultList f.resultTypes.size) (s.fn H (ds++[])).results []:=by
  intro b sp hd;rw[hs,hr];exact trodAll_cons_mk (shut_bool hb _) trodAll_mk0
 have hargs:∀sp:Nat->Bool,(∀x∈p,sp x.block=true)->DataW.TrodAll enc P W' 0 sp true f.params.toList args.toList (s.fn H (ds++[])).args p:=by
  intro sp hsp;rw[hs];exact args_of_le hl e hp hA λx hx=>⟨hlt x (by simpa using hx),hsp x hx⟩
 have hvars:∀sp:Nat->Bool,DataW.TrodVars enc P W' sp s.vars (s.fn H (ds++[])).vars []:=by
  intro sp;rw[hs,hv]
  rfl
 have hold:∀x∈p,(λb=>decide (b<W.heap.size)) x.block=true:=λx hx=>by simpa using hlt x (by simpa using hx)
 refine ⟨ds,[],p++[],[],p,[],hW0,hres _ _ _,hargs _ hold,hvars _,World.keptBut_mono (λx hx=>⟨hx,.inr (by simpa using hx)⟩) (kept_of_le e _),λ_=>?_⟩;refine ⟨ok_one hr rfl (okWide_bool_mk hb _),_,_,([]++p)++[],⟨[]++p,[],trodAll_append (hargs _ (λ_ _=>rfl)) (hres _ _ _),hvars _,rfl,?_,?_⟩,?_⟩
 ·intro b off hx
  have hx2:MemPlace.cell b off∈p:=by simpa using hx
  rw[frozen_of_le e (hlt _ (by simpa using hx2))];exact hz b off (by simpa using hx2)
 ·intro ha;cases ha
 ·intro x hx _
  simpa using hx
theorem str_of {t:TypeId}{base:Nat}{v:Value}{d:DataW H}{p:List MemPlace}(ht:P.underlying t=some .string)(hval:Value.okWide P W .any base t v)(h:DataW.Trod enc P W 0 (λ_=>true) true t v d p):
 ∃l:List UInt8,v=str l∧l.length<=maxLen:=by
 obtain ⟨s,rfl⟩:=okWide_string ht hval;obtain ⟨fuel,hf⟩:=h;obtain ⟨s',h1,_,hs⟩:=DataW.trod_string ht hf
 simp[Value.cells] at h1
 subst h1;refine ⟨s.data.toList,?_,by rw[Array.length_toList];exact hs⟩;unfold str
 simp
theorem u_of {t:TypeId}{base m:Nat}{k:IntKind}{v:Value}{d:DataW H}{p:List MemPlace}(ht:P.underlying t=some (.int k))(hk:k.min=0)(hk2:k.max=2^m-1)(hval:Value.okWide P W .any base t v)(h:DataW.Trod enc P W 0 (λ_=>true) true t v d p):
 ∃x:BitVec m,v=.int k (x.toNat:Int):=by
 obtain ⟨z,rfl,_,_,hw⟩:=open_int ht hval h;simp only[Lit.wf,Bool.and_eq_true,decide_eq_true_eq] at hw;refine ⟨BitVec.ofInt m z,?_⟩
 congr 1
 rw[BitVec.toNat_ofInt];have h1:(2^m:Int)=((2^m:Nat):Int):=by norm_cast
 have hp:0<2^m:=Nat.pow_pos (by decide);rw[Int.emod_eq_of_lt (by omega) (by omega)]
 omega
end
theorem calls_of {P:Program}{k:FuncId}{args:Array Value}{W:World}{Q:Value->World->Prop}(h:Ret P k args W λv w'=>v=.bool true∧Le W w')(hq:∀w',Le W w'->Q (.bool true) w'):
 Calls P k args W λe W'=>∃v,e=.returned v∧Q v W':=by
 refine Calls.mono h λe W' hh=>?_
 cases e with
 |returned v=>obtain ⟨rfl,e⟩:=hh;exact ⟨_,rfl,hq _ e⟩
 |_=>exact hh.elim
end Go.Pn
end
section
namespace Go.Pn.Vc
open Go Go.Pn Go.Pn.Cn
def within (a b:V):Bool:=a.all (λd=>vecHas b d)
def rorder (a b:V):Int:=if within a b&&within b a then 0 else if within a b then-1 else if within b a then 1 else 2
end Go.Pn.Vc
end
section
namespace Go.Pn.Cl
open Go Go.Pn Go.Lib
def rorder:Str:=[107,111,113,105,100]
def RGot (s:Str)(c:Call)(b:Bool):Prop:=(b=true->valid c=true∧InI64 c.qty∧text c=s)∧(b=false->∀d,valid d=true->InI64 d.qty->text d≠s)
def RdF (s:Str)(o:Int)(i:Nat)(rest:Str)(c:Call):Prop:=∃k,Rd s o k rest c∧(parts o).drop k=(rorder.drop i).filter (has o)
section
variable {s rest:Str}{o:Int}{i k:Nat}{c:Call}
theorem RdF.start (ho:isOp o=true)(h:word o=(ct s).1):RdF s o 0 (ct s).2 ⟨o,[],[],[],0,[]⟩:=
 ⟨0,Rd.start ho h,by
  rw[List.drop_zero,List.drop_zero];exact op_all (p:=λo=>parts o=rorder.filter (has o)) (by decide+kernel) ho⟩
theorem RdF.skip (h:RdF s o i rest c){x:UInt8}{r:Str}(hx:rorder.drop i=x::r)(hr:rorder.drop (i+1)=r)(hb:has o x=false):RdF s o (i+1) rest c:=by
 obtain ⟨k,h1,h2⟩:=h;refine ⟨k,h1,?_⟩;rw[h2,hx,hr,List.filter_cons_of_neg (by rw[hb];decide)]
theorem RdF.next (h:RdF s o i rest c){x:UInt8}{r:Str}(hx:rorder.drop i=x::r)(hr:rorder.drop (i+1)=r)(hb:has o x=true):
 ∃k,Rd s o k rest c∧∃hk:k<(parts o).length,(parts o)[k]=x∧(parts o).drop (k+1)=(rorder.drop (i+1)).filter (has o):=by
 obtain ⟨k,h1,h2⟩:=h;rw[hx,List.filter_cons_of_pos hb] at h2;have hk:k<(parts o).length:=by
  apply Decidable.byContradiction
  intro q;rw[List.drop_eq_nil_of_le (by omega)] at h2;cases h2
 rw[List.drop_eq_getElem_cons hk] at h2;injection h2 with a b;exact ⟨k,h1,hk,a,by rw[b,hr]⟩
theorem RdF.key (h:RdF s o 0 rest c)(hb:has o 107=true):RdF s o 1 (ct rest).2 {c with key:=(ct rest).1}:=by
 obtain ⟨k,h1,hk,h2,h3⟩:=h.next rfl rfl hb;exact ⟨k+1,h1.key hk (by rw[h2];rfl),h3⟩
theorem RdF.other (h:RdF s o 1 rest c)(hb:has o 111=true):RdF s o 2 (ct rest).2 {c with other:=(ct rest).1}:=by
 obtain ⟨k,h1,hk,h2,h3⟩:=h.next rfl rfl hb;exact ⟨k+1,h1.other hk (by rw[h2];rfl),h3⟩
theorem RdF.qty (h:RdF s o 2 rest c)(hb:has o 113=true):RdF s o 3 (ct rest).2 {c with qty:=numR (ct rest).1}:=by
 obtain ⟨k,h1,hk,h2,h3⟩:=h.next rfl rfl hb;exact ⟨k+1,h1.qty hk h2 (λq hq e=>by rw[e,numR_itoa hq]) (numR_in _),h3⟩
theorem RdF.item (h:RdF s o 3 rest c)(hb:has o 105=true):RdF s o 4 rest {c with item:=rest}:=by
 obtain ⟨k,h1,hk,h2,h3⟩:=h.next rfl rfl hb;exact ⟨k+1,h1.item hk (by rw[h2];rfl),h3⟩
theorem RdF.data (h:RdF s o 4 rest c)(hb:has o 100=true){l:Str}(hn:rest.length%2=1->l=[])(hl:∀x,rest=hex x->l=x)(hll:l.length<=rest.length):RdF s o 5 rest {c with data:=l}:=by
 obtain ⟨k,h1,hk,h2,h3⟩:=h.next rfl rfl hb;refine ⟨k+1,h1.data hk (by rw[h2];rfl) (λx hx=>?_) (Nat.le_trans hll h1.2.2.1),h3⟩
 by_cases q:x=[]
 ·rw [if_pos q] at hx
  rw[q];exact hn (by rw[hx];rfl)
 ·rw [if_neg q] at hx
  exact hl x hx
theorem RdF.rest_le (h:RdF s o i rest c):rest.length<=s.length:=by obtain ⟨k,h,_⟩:=h;exact h.2.2.1
theorem RdF.short (h:RdF s o i rest c)(hs:s.length<=1000000):Short c:=by obtain ⟨k,h,_⟩:=h;exact h.short hs
theorem RdF.qin (h:RdF s o i rest c):InI64 c.qty:=by obtain ⟨k,h,_⟩:=h;exact h.2.2.2.2.2.2.2
theorem RdF.end (h:RdF s o 5 rest c){d:Call}(hv:valid d=true)(hq:InI64 d.qty)(hd:text d=s):c=d:=by
 obtain ⟨k,h1,h2⟩:=h;have h3:(parts o).drop k=[]:=h2;have hk:(parts o).length<=k:=List.drop_eq_nil_iff.1 h3;have h4:=h1.1;rw[List.take_of_length_le hk,h3] at h4;exact h4.end hv hq hd
theorem RGot.of (h:RdF s o 5 rest c){b:Bool}(hb:b=true↔valid c=true∧text c=s):RGot s c b:=
 ⟨λq=>⟨(hb.1 q).1,h.qin,(hb.1 q).2⟩,λq d hv hq hd=>by
  have e:=h.end hv hq hd;subst e;have:=hb.2 ⟨hv,hd⟩;rw[q] at this;cases this⟩
theorem RGot.stop (h:∀o,isOp o=true->word o≠(ct s).1)(c:Call):RGot s c false:=
 ⟨λq=>(by cases q),λ_ d hv _ hd=>h d.op (valid_iff.1 hv).1 (by rw[<-hd,ct_text hv])⟩
end
end Go.Pn.Cl
end
