/-
 The frame of a walk, control and plain operations: the weakest precondition of the kit over frames that are functions of slots. No condition.
-/
import Derived.WalkKit
import Derived.WalkSpells
import Derived.WalkLawsBesides
import Derived.Laws.AppendOwnNone
import Derived.Great.BuildSlice
import Derived.OrdersHeld
import Derived.Laws.Externs
import Derived.Laws.Cells
import Derived.Laws.Tables
import Derived.Laws.StructEq
import Derived.Deep.Draws
import Derived.Sort.Grow
import Derived.Lib.IndexMore
import Derived.Lib.TrimByte
import Derived.Maps.RangeRun
import Derived.MapKept
import Derived.Lib.Bytealg
import Derived.ProofKit
import Derived.OpenShut
import Derived.WideKeyArgs
import Derived.LaidLaws
import Derived.Deep.DeepHandedRow
import Derived.Deep.DeepWitnessRowRef
import Derived.Lib.LaidTab
import Derived.Deep.Slices
import Derived.Lib.AppendZeros
import Derived.Lib.AppendStr
import Derived.Scope
import Derived.Shelf.SlSortCmp.WholeK
import Derived.Laws.RangeString
import Derived.ChangeKeysEq
import Derived.Shelf.SlSortCmp.Whole1
import Derived.Defers
import Derived.Recover
import Derived.RangeFuncLeaves
import Derived.RangeFuncSeq
import Derived.Laws.IdiomCopy
import Derived.Lib.AppendZerosOnto
import Derived.Lib.Overlaps
import Derived.Test.YtlgjaminfabchaaGreatDoorProg
import Derived.Test.YtlgjaminfabchaaGreatDoorRows
import Derived.Shelf.SlLaysF
import Derived.Shelf.SlLaysF0
import Derived.Ground.SlsfProg
import Derived.Shelf.Strings.Builder1
import Derived.Shelf.Strings.Trim
import Derived.Shelf.Small.Utf8
import Derived.Shelf.Small.Bits
import Derived.Shelf.Small.Strs
import Derived.Shelf.Small.Wraps
import Derived.Shelf.Strings.BuilderF
import Derived.Shelf.Strings.BuilderK
import Derived.Shelf.Strconv.Itoa0
import Derived.Shelf.Strings.Search1
import Derived.Shelf.Strings.Search2
import Derived.Shelf.Strings.Search3
import Derived.Shelf.LaysM
import Derived.Shelf.Strings.Shaped
import Derived.Shelf.Unicode.Decode
import Derived.Shelf.Strings.Runes
import Derived.Shelf.Strings.AsciiSet
import Derived.Shelf.Unicode.DecodeSlow
import Derived.Shelf.Unicode.DecodeAny
import Derived.Shelf.Unicode.DecodeLast
import Derived.Shelf.Strings.BuilderCap
import Derived.Shelf.Slices.CompactS
import Derived.Ground.Names2Prog
import Derived.Shelf.Slices.SearchI
import Derived.Shelf.Slices.Cells
import Derived.Shelf.SlSortCmp.Insertion
import Derived.Shelf.SlSortCmp.SiftDown1
import Derived.Shelf.SlSortCmp.HeapSort1
import Derived.Shelf.SlSortCmp.Insertion1
import Derived.Shelf.SlSortCmp.Median1
import Derived.Shelf.SlSortCmp.Pivot1
import Derived.Shelf.SlSortCmp.ReverseRange1
import Derived.Shelf.SlSortCmp.PartialInsertion1
import Derived.Shelf.SlSortCmp.PartitionEqual1
import Derived.Shelf.SlSortCmp.Partition1
import Derived.Shelf.SlSortCmp.Pdq1
import Derived.Test.YtlgjaminfabchaaGreatDoorCards
import Derived.Test.YtlgjaminfabchaaGreatDoorTie
import Derived.Test.YtlgjaminfabchaaGreatDoorDigestM5
section
namespace Go.Pn
open Go.RowKit
section
variable {P:Program}{n:Nat}{N N':Val->World->Prop}{X:Nat->Val->World->Prop}{R:Val->World->Prop}{Z:List PanicEntry->World->Prop}{f:Val}{w:World}{a b c:Code}
end
section
variable {P:Program}{n:Nat}{N:Val->World->Prop}{X:Nat->Val->World->Prop}{Z:List PanicEntry->World->Prop}{f:Val}{w:World}
end
section
variable {P:Program}{n:Nat}{ops rest:List Oper}{N:Val->World->Prop}{Z:List PanicEntry->World->Prop}{f:Val}{w:World}
theorem argsN:([]:List Operand).map (ev n f)=[]:=rfl
end
end Go.Pn
end
section
namespace Go.Pn
open Go.RowKit
section
variable {P:Program}{n:Nat}{ops rest:List Oper}{N:Val->World->Prop}{Z:List PanicEntry->World->Prop}{f:Val}{w:World}
 {d:Nat}{x y:Operand}{t t' ty:TypeId}{pos:String}{after:Array Edge}
section
variable {a b:Int}
theorem tdiv_nn {a b:Int}(ha:0<=a)(_:0<b):a.tdiv b=a/b:=Int.tdiv_eq_ediv_of_nonneg ha
theorem O.quoI (hx:ev n f x=i64 a)(hy:ev n f y=i64 b)(hb:0<=a∧0<b∧a<=9223372036854775807)(h:O P n ops rest N Z (upd f d (i64 (a/b))) w):
 O P n ops (ZO d (.binOp .quo t x y t') ty pos after::rest) N Z f w:=
 O.val rfl rfl (by
  have h1:b≠0:=by omega
  have h2:InI (a/b):=by
   have e1:=Int.ediv_nonneg hb.1 (Int.le_of_lt hb.2.1);have e2:=Int.ediv_le_self b hb.1;unfold InI;omega
  simp[execOp,hx,hy,eqGuard,binOp,Op.intDiv,h1,tdiv_nn hb.1 hb.2.1,wrap_in h2]) h
theorem O.remI (hx:ev n f x=i64 a)(hy:ev n f y=i64 b)(hb:0<=a∧0<b)(h:O P n ops rest N Z (upd f d (i64 (a%b))) w):
 O P n ops (ZO d (.binOp .rem t x y t') ty pos after::rest) N Z f w:=
 O.val rfl rfl (by
  have h1:b≠0:=by omega
  simp[execOp,hx,hy,eqGuard,binOp,Op.intDiv,h1,Int.tmod_eq_emod_of_nonneg hb.1]) h
end
section
variable {k:IntKind}{m:Nat}{a b:BitVec m}
theorem O.addU (hk:k.bits=m)(hs:k.signed=false)(hx:ev n f x=.int k (a.toNat:Int))(hy:ev n f y=.int k (b.toNat:Int))(h:O P n ops rest N Z (upd f d (.int k ((a+b).toNat:Int))) w):
 O P n ops (ZO d (.binOp .add t x y t') ty pos after::rest) N Z f w:=
 O.val rfl rfl (by
  have e:k.wrap ((a.toNat:Int)+(b.toNat:Int))=((a+b).toNat:Int):=by
   rw[wrap_u hk hs,BitVec.ofInt_add,ofInt_nat,ofInt_nat]
  simp[execOp,hx,hy,eqGuard,binOp,Op.intArith,e]) h
end
section
variable {k k':IntKind}{m m':Nat}
theorem O.convUI {a:BitVec m}(ht:P.underlying t=some (.int k))(ht':P.underlying t'=some (.int .i64))(hx:ev n f x=.int k (a.toNat:Int))(hm:m<64)
 (h:O P n ops rest N Z (upd f d (i64 (a.toNat:Int))) w):
 O P n ops (ZO d (.convert t t' x) ty pos after::rest) N Z f w:=
 O.val rfl rfl (by
  have e:IntKind.i64.wrap (a.toNat:Int)=(a.toNat:Int):=by
   apply wrap_in
   have h1:=a.isLt;have h2:2^m<=2^63:=Nat.pow_le_pow_right (by decide) (by omega);unfold InI;omega
  simp[execOp,hx,convert,run_underlying ht,run_underlying ht',Conv.intToInt,e]) h
end
section
variable {a b:List UInt8}
end
end
end Go.Pn
end
section
namespace Go.Pn
open Go.ChangeShapes Go.WideShapes Go.ChangeAt Go.RowKit
section
variable {H:Type}{enc:TypeId×Value->H}{P:Program}{W W':World}
theorem kept_of_le (e:Le W W')(may:MemPlace->Prop):W.keptBut W' may:=by
 refine ⟨e.os,e.output,λi hi=>?_⟩;rw[e.block i hi not_false];cases h:W.heap[i]? with
 |none=>rfl
 |some o=>cases o<;>first|exact ⟨rfl,rfl,rfl,λ_ _=>rfl⟩|exact .inr ⟨rfl,rfl⟩|rfl
theorem frozen_of_le (e:Le W W'){a:Addr}(h:a.block<W.heap.size):W'.frozen? a=W.frozen? a:=by
 unfold World.frozen?;rw[e.block _ h not_false]
theorem same_of_le (e:Le W W'){p:MemPlace}(h:p.block<W.heap.size):W.sameAt W' p:=by
 cases p with
 |cell b off=>show W'.cell? _=W.cell? _;unfold World.cell?;rw[e.block b h not_false]
 |map b=>exact e.block b h not_false
theorem args_of_le (hl:laidOutB P=true)(e:Le W W'){sp:Nat->Bool}:∀{ts:List TypeId} {vs:List Value} {ds:List (DataW H)} {ps:List MemPlace},
 (ts.all λt=>P.readableRec t&&decide (t<P.types.size))=true->DataW.TrodAll enc P W 0 (λ_=>true) true ts vs ds ps->(∀p∈ps,p.block<W.heap.size∧sp p.block=true)->DataW.TrodAll enc P W' 0 sp true ts vs ds ps
 |[],[],[],_,_,h,_=>h
 |[],[],_::_,_,_,h,_=>h.elim
 |[],_::_,[],_,_,h,_=>h.elim
 |[],_::_,_::_,_,_,h,_=>h.elim
 |_::_,[],[],_,_,h,_=>h.elim
 |_::_,[],_::_,_,_,h,_=>h.elim
 |_::_,_::_,[],_,_,h,_=>h.elim
 |_::_,_::_,_::_,_,ht,⟨p,q,h1,h2,e1⟩,hs=>by
  simp only[List.all_cons,Bool.and_eq_true,decide_eq_true_eq] at ht;subst e1;refine ⟨p,q,WideElems.Trod_stays hl ht.1.1 ht.1.2 h1 (λx hx=>same_of_le e (hs x (List.mem_append_left _ hx)).1) (λx hx=>(hs x (List.mem_append_left _ hx)).2),args_of_le hl e ?_ h2 (λx hx=>hs x (List.mem_append_right _ hx)),rfl⟩
  simpa using ht.2
theorem post_of_le {f:Func}{s:ChangeSpec}{fresh handsOn again:Bool}{args:Array Value}{ds gs:List (DataW H)}{before:List MemPlace}{tb:TypeId}
 (hl:laidOutB P=true)(hp:(f.params.toList.all λt=>P.readableRec t&&decide (t<P.types.size))=true)(hv:s.vars=[])(hr:f.resultTypes=#[tb])(hb:P.underlying tb=some .bool)
 (hW:DataW.Whole enc P f.params.toList s.vars false W args.toList ds gs before)(e:Le W W')
 (hs:s.fn H (ds++gs)={results:=[.lit (.bool true)],args:=ds}):s.post enc P f false fresh handsOn again W args (.bool true) W':=by
 have hlt:=hW.lt;have hW0:=hW;obtain ⟨p,q,hA,hV,rfl,hz,_⟩:=hW;rw[hv] at hV;obtain ⟨rfl,rfl⟩:=trodVars_none hV;have hres:∀(b:Nat) (sp:Nat->Bool) (hd:Bool),DataW.TrodAll enc P W' b sp hd f.resultTypes.toList ((Value.bool true).resultList f.resultTypes.size) (s.fn H (ds++[])).results []:=by
  intro b sp hd;rw[hs,hr];exact trodAll_cons_mk (shut_bool hb _) trodAll_mk0
 have hargs:∀sp:Nat->Bool,(∀x∈p,sp x.block=true)->DataW.TrodAll enc P W' 0 sp true f.params.toList args.toList (s.fn H (ds++[])).args p:=by
  intro sp hsp;rw[hs];exact args_of_le hl e hp hA λx hx=>⟨hlt x (by simpa using hx),hsp x hx⟩
 have hvars:∀sp:Nat->Bool,DataW.TrodVars enc P W' sp s.vars (s.fn H (ds++[])).vars []:=by
  intro sp;rw[hs,hv]
  rfl
 have hold:∀x∈p,(λb=>decide (b<W.heap.size)) x.block=true:=λx hx=>by simpa using hlt x (by simpa using hx)
 refine ⟨ds,[],p++[],[],p,[],hW0,hres _ _ _,hargs _ hold,hvars _,World.keptBut_mono (λx hx=>⟨hx,.inr (by simpa using hx)⟩) (kept_of_le e _),λ_=>?_⟩;refine ⟨ok_one hr rfl (okWide_bool_mk hb _),_,_,([]++p)++[],⟨[]++p,[],trodAll_append (hargs _ (λ_ _=>rfl)) (hres _ _ _),hvars _,rfl,?_,?_⟩,?_⟩
 ·intro b off hx
  have hx2:MemPlace.cell b off∈p:=by simpa using hx
  rw[frozen_of_le e (hlt _ (by simpa using hx2))];exact hz b off (by simpa using hx2)
 ·intro ha;cases ha
 ·intro x hx _
  simpa using hx
theorem u_of {t:TypeId}{base m:Nat}{k:IntKind}{v:Value}{d:DataW H}{p:List MemPlace}(ht:P.underlying t=some (.int k))(hk:k.min=0)(hk2:k.max=2^m-1)(hval:Value.okWide P W .any base t v)(h:DataW.Trod enc P W 0 (λ_=>true) true t v d p):
 ∃x:BitVec m,v=.int k (x.toNat:Int):=by
 obtain ⟨z,rfl,_,_,hw⟩:=open_int ht hval h;simp only[Lit.wf,Bool.and_eq_true,decide_eq_true_eq] at hw;refine ⟨BitVec.ofInt m z,?_⟩
 congr 1
 rw[BitVec.toNat_ofInt];have h1:(2^m:Int)=((2^m:Nat):Int):=by norm_cast
 have hp:0<2^m:=Nat.pow_pos (by decide);rw[Int.emod_eq_of_lt (by omega) (by omega)]
 omega
theorem i_of {t:TypeId}{base:Nat}{v:Value}{d:DataW H}{p:List MemPlace}(ht:P.underlying t=some (.int .i64))(hval:Value.okWide P W .any base t v)(h:DataW.Trod enc P W 0 (λ_=>true) true t v d p):
 ∃z:Int,v=.int .i64 z∧InI z:=by
 obtain ⟨z,rfl,_,_,hw⟩:=open_int ht hval h;simp only[Lit.wf,Bool.and_eq_true,decide_eq_true_eq] at hw;refine ⟨z,rfl,?_⟩;unfold InI;have e1:IntKind.i64.min= -9223372036854775808:=rfl;have e2:IntKind.i64.max=9223372036854775807:=rfl
 omega
end
theorem calls_of {P:Program}{k:FuncId}{args:Array Value}{W:World}{Q:Value->World->Prop}(h:Ret P k args W λv w'=>v=.bool true∧Le W w')(hq:∀w',Le W w'->Q (.bool true) w'):
 Calls P k args W λe W'=>∃v,e=.returned v∧Q v W':=by
 refine Calls.mono h λe W' hh=>?_
 cases e with
 |returned v=>obtain ⟨rfl,e⟩:=hh;exact ⟨_,rfl,hq _ e⟩
 |_=>exact hh.elim
end Go.Pn
end
section
namespace Go.Pn.Dg
open Go Go.Pn Go.Pn.Bt Go.Pn.Jn
theorem of_bs (l:List Ent):(of l).bs.length=16:=by
 unfold of
 split
 ·exact bks_len _
 ·rfl
theorem syn_no {a b c:List Ent}{e:Int}(h:¬e=0):syn a b c e=[]:=by
 unfold syn;rw[if_neg h,List.take_zero]
end Go.Pn.Dg
end
section
namespace Go.Pn.Dg
open Go Go.Pn Go.Pn.Bt Go.Pn.Jn
def dB (i:Int):BitVec 8:=48#8+BitVec.ofInt 8 i
def aB (i:Int):BitVec 8:=97#8+BitVec.ofInt 8 i
def key3 (i:Nat):Str:=[⟨aB ((i:Int)/100)⟩,⟨dB ((i:Int)/10%10)⟩,⟨dB ((i:Int)%10)⟩]
def keyZ (i:Nat):Str:=[122,⟨dB (i:Int)⟩]
def many (m:Nat):List Ent:=ents ((List.range m).map key3)
def oths (n:Nat):List Ent:=ents ((List.range n).map keyZ)
theorem aB_nat {k:Nat}(h:k<100):(⟨aB (k:Int)⟩:UInt8).toNat=97+k:=by
 show (97#8+BitVec.ofInt 8 (k:Int)).toNat=_;rw[BitVec.toNat_add,BitVec.toNat_ofInt];show (97+_)%256=_
 omega
theorem dB_nat {k:Nat}(h:k<100):(⟨dB (k:Int)⟩:UInt8).toNat=48+k:=by
 show (48#8+BitVec.ofInt 8 (k:Int)).toNat=_;rw[BitVec.toNat_add,BitVec.toNat_ofInt];show (48+_)%256=_
 omega
theorem key3_eq (i:Nat):key3 i=[⟨aB ((i/100:Nat):Int)⟩,⟨dB ((i/10%10:Nat):Int)⟩,⟨dB ((i%10:Nat):Int)⟩]:=by
 unfold key3;rw[show ((i/100:Nat):Int)=(i:Int)/100 by omega,show ((i/10%10:Nat):Int)=(i:Int)/10%10 by omega,show ((i%10:Nat):Int)=(i:Int)%10 by omega]
theorem key3_lt {i j:Nat}(h:i<j)(hj:j<1100):BL (key3 i) (key3 j):=by
 rw[key3_eq,key3_eq,bl_cons,bl_cons,bl_cons,aB_nat (by omega),aB_nat (by omega),dB_nat (by omega),dB_nat (by omega),dB_nat (by omega),dB_nat (by omega)]
 by_cases h1:i/100<j/100
 ·exact .inl (by omega)
 ·by_cases h2:i/10%10<j/10%10
  ·exact .inr ⟨by omega,.inl (by omega)⟩
  ·exact .inr ⟨by omega,.inr ⟨by omega,.inl (by omega)⟩⟩
theorem keyZ_lt {i j:Nat}(h:i<j)(hj:j<10):BL (keyZ i) (keyZ j):=by
 unfold keyZ;rw[bl_cons,bl_cons,dB_nat (by omega),dB_nat (by omega)];exact .inr ⟨rfl,.inl (by omega)⟩
theorem key3_z {i j:Nat}(h:i<1100):BL (key3 i) (keyZ j):=by
 unfold keyZ;rw[key3_eq,bl_cons,aB_nat (by omega)];exact .inl (by show 97+i/100<122;omega)
theorem keyB_d {k:Nat}(h:k<10):keyB ⟨dB (k:Int)⟩=true:=by
 unfold keyB;rw[dB_nat (by omega),dT (show 48<=48+k by omega),dT (show 48+k<=57 by omega)]
 simp
theorem keyB_a {k:Nat}(h:k<26):keyB ⟨aB (k:Int)⟩=true:=by
 unfold keyB;rw[aB_nat (by omega),dT (show 97<=97+k by omega),dT (show 97+k<=122 by omega)]
 simp
theorem key3_ok {i:Nat}(h:i<1100):okKey (key3 i)=true:=by
 unfold okKey;rw[key3_eq,List.all_cons,List.all_cons,List.all_cons,keyB_a (by omega),keyB_d (by omega),keyB_d (by omega)]
 rfl
theorem keyZ_ok {i:Nat}(h:i<10):okKey (keyZ i)=true:=by
 unfold okKey keyZ;rw[List.all_cons,List.all_cons,keyB_d h]
 rfl
theorem ents_ord {ks:List Str}(h1:∀k∈ks,okKey k=true)(h2:ks.Pairwise BL):Ord (ents ks):=by
 refine ⟨λx hx=>?_,?_⟩
 ·obtain ⟨k,hk,rfl⟩:=List.mem_map.1 hx
  exact ⟨h1 k hk,good_iff.1 (show Cn.valid cart0=true by decide+kernel)⟩
 ·unfold ents
  rw[List.pairwise_map];exact h2
theorem many_ord {m:Nat}(h:m<=1100):Ord (many m):=ents_ord (λk hk=>by
 obtain ⟨i,hi,rfl⟩:=List.mem_map.1 hk;exact key3_ok (by have:=List.mem_range.1 hi;omega)) (by
 rw[List.pairwise_map];exact (List.pairwise_lt_range).imp_of_mem λhi hj hij=>key3_lt hij (by have:=List.mem_range.1 hj;omega))
theorem oths_ord {n:Nat}(h:n<=10):Ord (oths n):=ents_ord (λk hk=>by
 obtain ⟨i,hi,rfl⟩:=List.mem_map.1 hk;exact keyZ_ok (by have:=List.mem_range.1 hi;omega)) (by
 rw[List.pairwise_map];exact (List.pairwise_lt_range).imp_of_mem λhi hj hij=>keyZ_lt hij (by have:=List.mem_range.1 hj;omega))
theorem ents_len (ks:List Str):(ents ks).length=ks.length:=List.length_map _
theorem many_len (m:Nat):(many m).length=m:=by unfold many;rw[ents_len,List.length_map,List.length_range]
theorem oths_len (n:Nat):(oths n).length=n:=by unfold oths;rw[ents_len,List.length_map,List.length_range]
theorem many_check {m:Nat}(h:m<=1024):check (many m)=0:=check_ok (by rw[many_len];omega) (ord_iff.2 (many_ord (by omega)))
theorem many_long {m:Nat}(h:1024<m):check (many m)=5:=check_long (by rw[many_len];exact h)
theorem oths_check {n:Nat}(h:n<=10):check (oths n)=0:=check_ok (by rw[oths_len];omega) (ord_iff.2 (oths_ord h))
theorem sync_app:∀(a b:List Ent),(∀x∈a,∀y∈b,BL x.1 y.1)->syncM a b=a++b
 |[],b,_=>by rw[syncM_nil];rfl
 |x::l,[],_=>by rw[syncM_nil2,List.append_nil]
 |x::l,y::m,h=>by rw[syncM_a (h x (.head _) y (.head _)),sync_app l (y::m) λz hz=>h z (.tail _ hz)];rfl
theorem sync_app2:∀(a b:List Ent),(∀x∈a,∀y∈b,BL x.1 y.1)->syncM b a=a++b
 |[],b,_=>by rw[syncM_nil2];rfl
 |x::l,[],_=>by rw[syncM_nil,List.append_nil]
 |x::l,y::m,h=>by
  have h1:=h x (.head _) y (.head _);rw[syncM_b (Bool.eq_false_iff.2 λq=>bl_irrefl _ (bl_trans h1 q)) h1,sync_app2 l (y::m) λz hz=>h z (.tail _ hz)];rfl
theorem many_z {m n:Nat}(h:m<=1100):∀x∈many m,∀y∈oths n,BL x.1 y.1:=λx hx y hy=>by
 obtain ⟨k,hk,rfl⟩:=List.mem_map.1 hx;obtain ⟨k2,hk2,rfl⟩:=List.mem_map.1 hy;obtain ⟨i,hi,rfl⟩:=List.mem_map.1 hk;obtain ⟨j,hj,rfl⟩:=List.mem_map.1 hk2;exact key3_z (by have:=List.mem_range.1 hi;omega)
theorem many_sync {m n:Nat}(h:m<=1100):syncM (many m) (oths n)=many m++oths n:=sync_app _ _ (many_z h)
theorem many_sync2 {m n:Nat}(h:m<=1100):syncM (oths n) (many m)=many m++oths n:=sync_app2 _ _ (many_z h)
theorem many_slen {m n:Nat}(h:m<=1100):(syncM (many m) (oths n)).length=m+n:=by rw[many_sync h,List.length_append,many_len,oths_len]
theorem many_serr5 {m n:Nat}(h:1024<m):serr (many m) (oths n)=5:=serr_long (.inl (by rw[many_len];exact h))
theorem many_full {m n:Nat}(h:m<=1024)(hn:n<=10)(h2:1024<m+n):serr (many m) (oths n)=5:=serr_full (many_check h) (oths_check hn) (by rw[many_slen (by omega)];exact h2)
theorem many_fit {m n:Nat}(h:m<=1024)(hn:n<=10)(h2:¬1024<m+n):serr (many m) (oths n)=0:=serr_ok (many_check h) (oths_check hn) (by rw[many_slen (by omega)];exact h2)
theorem keys_big {ks:List Str}{f:Nat->Str}{n:Nat}(hks:ks=(List.range n).map f)(h:∀i,(f i).length<=3):∀k∈ks,k.length<=1000000:=λk hk=>by
 rw[hks] at hk;obtain ⟨i,_,rfl⟩:=List.mem_map.1 hk;have:=h i
 omega
theorem range_snoc {n:Nat}(f:Nat->Str):(List.range (n+1)).map f=(List.range n).map f++[f n]:=by rw[List.range_succ,List.map_append];rfl
theorem raws_snoc (ks:List Str)(k:Str):raws (ks++[k])=raws ks++[ent0 k]:=by unfold raws;rw[List.map_append];rfl
theorem raws_len (ks:List Str):(raws ks).length=ks.length:=List.length_map _
end Go.Pn.Dg
end
