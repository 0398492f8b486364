/-
 The frame of a walk, control and plain operations: the weakest precondition of the kit over frames that are functions of slots. No condition.
-/
import Derived.WalkKit
import Derived.WalkSpells
import Derived.WalkLawsBesides
import Derived.Laws.AppendOwnNone
import Derived.Great.BuildSlice
import Derived.OrdersHeld
import Derived.Laws.Externs
import Derived.Laws.Cells
import Derived.Laws.Tables
import Derived.Laws.StructEq
import Derived.Deep.Draws
import Derived.Sort.Grow
import Derived.Lib.IndexMore
import Derived.Lib.TrimByte
import Derived.Maps.RangeRun
import Derived.MapKept
import Derived.Lib.Bytealg
import Derived.ProofKit
import Derived.OpenShut
import Derived.WideKeyArgs
import Derived.LaidLaws
import Derived.Deep.DeepHandedRow
import Derived.Deep.DeepWitnessRowRef
import Derived.Lib.LaidTab
import Derived.Deep.Slices
import Derived.Lib.AppendZeros
import Derived.Lib.AppendStr
import Derived.Scope
import Derived.Shelf.SlSortCmp.WholeK
import Derived.Laws.RangeString
import Derived.ChangeKeysEq
import Derived.Shelf.SlSortCmp.Whole1
import Derived.Defers
import Derived.Recover
import Derived.RangeFuncLeaves
import Derived.RangeFuncSeq
import Derived.Laws.IdiomCopy
import Derived.Test.YtlgjaminfabchaaGreatDoorDigestM5
variable {P:Go.Program}{n:Nat}{ops rest:List Go.Oper}{N:Go.Pn.Val->Go.World->Prop}{Z:List Go.PanicEntry->Go.World->Prop}{f:Go.Pn.Val}{w:Go.World}
section
namespace Go.Pn
open Go.RowKit
section
variable {P:Program}{n:Nat}{N N':Val->World->Prop}{X:Nat->Val->World->Prop}{R:Val->World->Prop}{Z:List PanicEntry->World->Prop}{f:Val}{w:World}{a b c:Code}
end
section
variable {P:Program}{n:Nat}{N:Val->World->Prop}{X:Nat->Val->World->Prop}{Z:List PanicEntry->World->Prop}{f:Val}{w:World}
end
section
theorem argsN:([]:List Operand).map (ev n f)=[]:=rfl
end
end Go.Pn
end
section
namespace Go.Pn
open Go.RowKit
section
variable
 {d:Nat}{x y:Operand}{t t' ty:TypeId}{pos:String}{after:Array Edge}
section
variable {a b:Int}
theorem O.mulI (hx:ev n f x=i64 a)(hy:ev n f y=i64 b)(hb:InI (a*b))(h:O P n ops rest N Z (upd f d (i64 (a*b))) w):
 O P n ops (ZO d (.binOp .mul t x y t') ty pos after::rest) N Z f w:=
 O.val rfl rfl (by simp[execOp,hx,hy,eqGuard,binOp,Op.intArith,wrap_in hb]) h
end
section
variable {k:IntKind}{m:Nat}{a b:BitVec m}
end
section
variable {k k':IntKind}{m m':Nat}
end
theorem run_neq_bool {a b:Bool}(ht:P.underlying t=some .bool):(binOp .neq t (.bool a) (.bool b)).run P w=.ok (.bool (decide (a≠b))) w:=by
 have e:(!(a==b))=decide (a≠b):=by cases a<;>cases b<;>rfl
 have h1:(Op.equal t (.bool a) (.bool b)).run P w=.ok (a==b) w:=run_equalIn_bool w 9999 t a b ht;have h2:binOp .neq t (.bool a) (.bool b)=(do pure (.bool (!(<-Op.equal t (.bool a) (.bool b))))):=rfl;rw[h2,Sem.run_bind,h1];simp only[Result.andThen_ok,e]
 rfl
theorem O.neqB {a b:Bool}(ht:P.underlying t=some .bool)(hx:ev n f x=.bool a)(hy:ev n f y=.bool b)(h:O P n ops rest N Z (upd f d (.bool (decide (a≠b)))) w):
 O P n ops (ZO d (.binOp .neq t x y t') ty pos after::rest) N Z f w:=
 O.val rfl rfl (run_bin hx hy rfl (run_neq_bool ht) _ _) h
section
variable {a b:List UInt8}
end
end
end Go.Pn
end
section
namespace Go.Pn.Cn
open Go Go.Pn
section
variable {α:Type}{p:α->Bool}{l:List α}
end
section
variable {α:Type}{r:α->α->Bool}
end
theorem small_iff {a:Cart}(h:small a=true):a.1.1.length<=40∧a.1.2.length<=40∧a.2.length<=20∧∀x∈a.2,x.2.length<=20∧x.1.length<=100:=by
 unfold small at h;rw[Bool.and_eq_true,decide_eq_true_eq,List.all_eq_true] at h;refine ⟨h.1.1.1,h.1.1.2,h.1.2,λx hx=>?_⟩;have:=h.2 x hx;unfold smallI at this
 simpa using this
end Go.Pn.Cn
end
section
namespace Go.Pn.Bt
open Go Go.Pn Go.Pn.Jn
theorem small_iff {l:List Ent}{most:Int}(h:small l most=true):(l.length:Int)<=most∧∀x∈l,x.1.length<=100∧Cn.small x.2=true:=by
 unfold small at h;rw[Bool.and_eq_true,decide_eq_true_iff,List.all_eq_true] at h;refine ⟨h.1,λx hx=>?_⟩;have:=h.2 x hx;unfold smallE at this;rw[Bool.and_eq_true,decide_eq_true_iff] at this;exact this
theorem small_big {x:Cart}(h:Cn.small x=true):Cn.big x:=by
 obtain ⟨h1,h2,h3,h4⟩:=Cn.small_iff h;exact ⟨by omega,by omega,by omega,λy hy=>by have:=h4 y hy;omega⟩
end Go.Pn.Bt
end
section
namespace Go.Pn.Dg
open Go Go.Pn
theorem dig_ext {a b:Dig}(h1:a.ls=b.ls)(h2:a.bs=b.bs)(h3:a.rt=b.rt):a=b:=by
 cases a;cases b;simp_all
theorem bksP_at (l:List Leaf){k:Nat}(h:k<16):(bksP l (k+1))[k]'(by rw[bksP_len l (by omega)];exact h)=sum (part l k):=by
 have e:=bksP_set l h;have h2:k<((bksP l k).set k (sum (part l k))).length:=by rw[List.length_set,bksP_len l (by omega)];exact h
 have:((bksP l k).set k (sum (part l k)))[k]'h2=sum (part l k):=by simp
 simpa only[e] using this
theorem bks_take (l:List Leaf){k:Nat}(h:k<16):(bks l).take (k+1)=(bks l).take k++[sum (part l k)]:=by
 rw[List.take_succ_eq_append_getElem (by rw[bks_len];exact h),bks_at]
theorem bucket_eq (l:Str){k:Nat}(h:k<16):hash l%16#64=BitVec.ofInt 64 (k:Int)↔bucket l=k:=by
 have h1:(hash l%16#64).toNat=bucket l:=by rw[BitVec.toNat_umod];rfl
 have h2:(BitVec.ofInt 64 (k:Int)).toNat=k:=by
  rw[BitVec.toNat_ofInt]
  omega
 constructor
 ·intro q
  rw[<-h1,q,h2]
 ·intro q
  apply BitVec.eq_of_toNat_eq
  rw[h1,h2,q]
theorem part_take_yes (l:List Leaf){i k:Nat}(hi:i<l.length)(h:bucket l[i].1=k):part (l.take (i+1)) k=part (l.take i) k++[l[i].2]:=by
 rw[List.take_succ_eq_append_getElem hi,part_snoc,if_pos h]
theorem part_take_no (l:List Leaf){i k:Nat}(hi:i<l.length)(h:¬bucket l[i].1=k):part (l.take (i+1)) k=part (l.take i) k:=by
 rw[List.take_succ_eq_append_getElem hi,part_snoc,if_neg h,List.append_nil]
end Go.Pn.Dg
end
section
namespace Go.Pn
open Go.ChangeShapes Go.WideShapes Go.ChangeAt Go.RowKit
section
variable {H:Type}{enc:TypeId×Value->H}{P:Program}{W W':World}
theorem kept_of_le (e:Le W W')(may:MemPlace->Prop):W.keptBut W' may:=by
 refine ⟨e.os,e.output,λi hi=>?_⟩;rw[e.block i hi not_false];cases h:W.heap[i]? with
 |none=>rfl
 |some o=>cases o<;>first|exact ⟨rfl,rfl,rfl,λ_ _=>rfl⟩|exact .inr ⟨rfl,rfl⟩|rfl
theorem frozen_of_le (e:Le W W'){a:Addr}(h:a.block<W.heap.size):W'.frozen? a=W.frozen? a:=by
 unfold World.frozen?;rw[e.block _ h not_false]
theorem same_of_le (e:Le W W'){p:MemPlace}(h:p.block<W.heap.size):W.sameAt W' p:=by
 cases p with
 |cell b off=>show W'.cell? _=W.cell? _;unfold World.cell?;rw[e.block b h not_false]
 |map b=>exact e.block b h not_false
theorem args_of_le (hl:laidOutB P=true)(e:Le W W'){sp:Nat->Bool}:∀{ts:List TypeId} {vs:List Value} {ds:List (DataW H)} {ps:List MemPlace},
 (ts.all λt=>P.readableRec t&&decide (t<P.types.size))=true->DataW.TrodAll enc P W 0 (λ_=>true) true ts vs ds ps->(∀p∈ps,p.block<W.heap.size∧sp p.block=true)->DataW.TrodAll enc P W' 0 sp true ts vs ds ps
 |[],[],[],_,_,h,_=>h
 |[],[],_::_,_,_,h,_=>h.elim
 |[],_::_,[],_,_,h,_=>h.elim
 |[],_::_,_::_,_,_,h,_=>h.elim
 |_::_,[],[],_,_,h,_=>h.elim
 |_::_,[],_::_,_,_,h,_=>h.elim
 |_::_,_::_,[],_,_,h,_=>h.elim
 |_::_,_::_,_::_,_,ht,⟨p,q,h1,h2,e1⟩,hs=>by
  simp only[List.all_cons,Bool.and_eq_true,decide_eq_true_eq] at ht;subst e1;refine ⟨p,q,WideElems.Trod_stays hl ht.1.1 ht.1.2 h1 (λx hx=>same_of_le e (hs x (List.mem_append_left _ hx)).1) (λx hx=>(hs x (List.mem_append_left _ hx)).2),args_of_le hl e ?_ h2 (λx hx=>hs x (List.mem_append_right _ hx)),rfl⟩
  simpa using ht.2
theorem post_of_le {f:Func}{s:ChangeSpec}{fresh handsOn again:Bool}{args:Array Value}{ds gs:List (DataW H)}{before:List MemPlace}{tb:TypeId}
 (hl:laidOutB P=true)(hp:(f.params.toList.all λt=>P.readableRec t&&decide (t<P.types.size))=true)(hv:s.vars=[])(hr:f.resultTypes=#[tb])(hb:P.underlying tb=some .bool)
 (hW:DataW.Whole enc P f.params.toList s.vars false W args.toList ds gs before)(e:Le W W')
 (hs:s.fn H (ds++gs)={results:=[.lit (.bool true)],args:=ds}):s.post enc P f false fresh handsOn again W args (.bool true) W':=by
 have hlt:=hW.lt;have hW0:=hW;obtain ⟨p,q,hA,hV,rfl,hz,_⟩:=hW;rw[hv] at hV;obtain ⟨rfl,rfl⟩:=trodVars_none hV;have hres:∀(b:Nat) (sp:Nat->Bool) (hd:Bool),DataW.TrodAll enc P W' b sp hd f.resultTypes.toList ((Value.bool true).resultList f.resultTypes.size) (s.fn H (ds++[])).results []:=by
  intro b sp hd;rw[hs,hr];exact trodAll_cons_mk (shut_bool hb _) trodAll_mk0
 have hargs:∀sp:Nat->Bool,(∀x∈p,sp x.block=true)->DataW.TrodAll enc P W' 0 sp true f.params.toList args.toList (s.fn H (ds++[])).args p:=by
  intro sp hsp;rw[hs];exact args_of_le hl e hp hA λx hx=>⟨hlt x (by simpa using hx),hsp x hx⟩
 have hvars:∀sp:Nat->Bool,DataW.TrodVars enc P W' sp s.vars (s.fn H (ds++[])).vars []:=by
  intro sp;rw[hs,hv]
  rfl
 have hold:∀x∈p,(λb=>decide (b<W.heap.size)) x.block=true:=λx hx=>by simpa using hlt x (by simpa using hx)
 refine ⟨ds,[],p++[],[],p,[],hW0,hres _ _ _,hargs _ hold,hvars _,World.keptBut_mono (λx hx=>⟨hx,.inr (by simpa using hx)⟩) (kept_of_le e _),λ_=>?_⟩;refine ⟨ok_one hr rfl (okWide_bool_mk hb _),_,_,([]++p)++[],⟨[]++p,[],trodAll_append (hargs _ (λ_ _=>rfl)) (hres _ _ _),hvars _,rfl,?_,?_⟩,?_⟩
 ·intro b off hx
  have hx2:MemPlace.cell b off∈p:=by simpa using hx
  rw[frozen_of_le e (hlt _ (by simpa using hx2))];exact hz b off (by simpa using hx2)
 ·intro ha;cases ha
 ·intro x hx _
  simpa using hx
end
theorem calls_of {P:Program}{k:FuncId}{args:Array Value}{W:World}{Q:Value->World->Prop}(h:Ret P k args W λv w'=>v=.bool true∧Le W w')(hq:∀w',Le W w'->Q (.bool true) w'):
 Calls P k args W λe W'=>∃v,e=.returned v∧Q v W':=by
 refine Calls.mono h λe W' hh=>?_
 cases e with
 |returned v=>obtain ⟨rfl,e⟩:=hh;exact ⟨_,rfl,hq _ e⟩
 |_=>exact hh.elim
end Go.Pn
end
section
namespace Go.Pn
section
variable {w w':World}{F F' M:Nat->Prop}{r:(Raw×Raw)×Raw}{c:CartT}
end
section
variable {w w':World}{F F' M:Nat->Prop}{raw:List EntR}{l:List EntT}{v:Value}
theorem Sl.ents (h:Sl entE w F v l):∃raw,Sl entF.enc w F v raw∧EntL w F raw l:=by
 obtain ⟨rs,h1,h2,h3⟩:=Sl.raws (G:=entF) (R:=λr x=>r.1=x.1∧CartAt w F r.2 x.2) rfl (λcs x hr=>by
  obtain ⟨_,_,rfl,hs,_,_,rfl,⟨_,_,rfl,⟨va,rfl,hx⟩,vb,rfl,hy⟩,vc,rfl,hz⟩:=hr;obtain ⟨a1,rfl⟩:=hx.slv;obtain ⟨a2,rfl⟩:=hy.slv;obtain ⟨a3,rfl⟩:=hz.slv;have hs2:_=[str x.1]:=hs;subst hs2;exact ⟨(x.1,(a1,a2),a3),rfl,rfl,hx,hy,hz⟩) h
 exact ⟨rs,h1,h2,h3⟩
end
end Go.Pn
end
section
namespace Go.Pn
open Go.RowKit
section
variable {v:Value}{bs:List (BitVec 64)}{r:BitVec 64}
end
section
variable
 {d:Nat}{x y:Operand}{t t' tr e:TypeId}{pos:String}{after:Array Edge}
theorem O.neqAr {len:Nat}{ti:TypeInfo}{a b:List (BitVec 64)}(ht:P.underlying t=some (.array len e))(he:P.underlying e=some (.int .u64))(hi:P.info? e=some ti)(hc:P.cellsOf e=1)(hag:∀w,(isAgg e).run P w=.ok false w)(hm:P.eqGuardType P.depth t=false)
 (hx:ev n f x=.agg (a.map u6).toArray)(hy:ev n f y=.agg (b.map u6).toArray)(ha:a.length=len)(hb:b.length=len)(h:O P n ops rest N Z (upd f d (.bool (decide (a≠b)))) w):
 O P n ops (ZO d (.binOp .neq t x y t') tr pos after::rest) N Z f w:=
 O.val rfl rfl (run_bin hx hy (run_eqGuard_agg w _ _ _ _ _ _ hm) (by rw[run_neq_struct,run_eq_arr ht he hi hc hag a b ha hb];simp[Result.andThen]) _ _) h
end
section
variable
 {d:Nat}{x y:Operand}{t t' tr:TypeId}{pos:String}{after:Array Edge}
theorem run_eq_leaf {f0 f1:Field} (ht:P.underlying t=some (.struct #[f0,f1])) (n0:f0.name≠ "_") (n1:f1.name≠ "_") (o0:f0.offset=0) (o1:f1.offset=1) (u0:P.underlying f0.type=some .string) (u1:P.underlying f1.type=some (.int .u64))
 (a0:∀w,(isAgg f0.type).run P w=.ok false w) (a1:∀w,(isAgg f1.type).run P w=.ok false w) (hp:P.stoodInHeld t=false) (a b:List UInt8×BitVec 64):
 (Op.equalIn 10000 t (.agg #[str a.1,.int .u64 (a.2.toNat:Int)]) (.agg #[str b.1,.int .u64 (b.2.toNat:Int)])).run P w=.ok (decide (a=b)) w:=by
 have hf:P.fieldsOf t=#[f0,f1]:=by unfold Program.fieldsOf;rw[ht]
 rw[run_equalIn_struct w 9999 t _ _ (by rw[hf];exact ht) hp,hf];have e0:∀w,(Op.equalIn 9999 f0.type (str a.1) (str b.1)).run P w=.ok (decide (a.1=b.1)) w:=λw=>by
  have h:=run_equalIn_string (P:=P) w 9998 f0.type ⟨a.1.toArray⟩ ⟨b.1.toArray⟩ u0;rw[ByteArray.toList_eq,ByteArray.toList_eq] at h;refine h.trans ?_
  congr 1
  show (a.1==b.1)=_
  by_cases q:a.1=b.1<;>simp[q]
 have e1:∀w,(Op.equalIn 9999 f1.type (.int .u64 (a.2.toNat:Int)) (.int .u64 (b.2.toNat:Int))).run P w=.ok ((a.2.toNat:Int)==(b.2.toNat:Int)) w:=λw=>run_equalIn_int w 9998 f1.type .u64 .u64 _ _ u1
 simp only[Op.eqFields,n0,n1,ne_eq,not_false_eq_true,if_true,Sem.run_bind,part,a0,Result.andThen_ok,Bool.false_eq_true,if_false,o0,o1];simp only[show (#[str a.1,Value.int .u64 (a.2.toNat:Int)])[0]? =some (str a.1) from rfl,show (#[str a.1,Value.int .u64 (a.2.toNat:Int)])[1]? =some (Value.int .u64 (a.2.toNat:Int)) from rfl,
  show (#[str b.1,Value.int .u64 (b.2.toNat:Int)])[0]? =some (str b.1) from rfl,show (#[str b.1,Value.int .u64 (b.2.toNat:Int)])[1]? =some (Value.int .u64 (b.2.toNat:Int)) from rfl,Sem.run_pure,Result.andThen_ok,e0,Sem.run_ite]
 by_cases h1:a.1=b.1
 ·by_cases h2:a.2=b.2
  ·obtain rfl:a=b:=Prod.ext h1 h2
   simp[e1,a1]
  ·have h:¬a=b:=λh=>h2 (by rw[h])
   have h3:((a.2.toNat:Int)==(b.2.toNat:Int))=false:=by
    have h4:¬((a.2.toNat:Int)=(b.2.toNat:Int)):=λq=>h2 (BitVec.eq_of_toNat_eq (by omega))
    simpa using h4
   simp[e1,h,a1,h3,h1]
 ·have h:¬a=b:=λh=>h1 (by rw[h])
  simp[h1,h]
theorem O.neqLf {f0 f1:Field} {a b:List UInt8×BitVec 64} (ht:P.underlying t=some (.struct #[f0,f1])) (n0:f0.name≠ "_") (n1:f1.name≠ "_") (o0:f0.offset=0) (o1:f1.offset=1) (u0:P.underlying f0.type=some .string) (u1:P.underlying f1.type=some (.int .u64))
 (a0:∀w,(isAgg f0.type).run P w=.ok false w) (a1:∀w,(isAgg f1.type).run P w=.ok false w) (hp:P.stoodInHeld t=false) (hm:P.eqGuardType P.depth t=false)
 (hx:ev n f x=.agg #[str a.1,.int .u64 (a.2.toNat:Int)]) (hy:ev n f y=.agg #[str b.1,.int .u64 (b.2.toNat:Int)]) (h:O P n ops rest N Z (upd f d (.bool (decide (a≠b)))) w):
 O P n ops (ZO d (.binOp .neq t x y t') tr pos after::rest) N Z f w:=
 O.val rfl rfl (run_bin hx hy (run_eqGuard_agg w _ _ _ _ _ _ hm) (by rw[run_neq_struct,run_eq_leaf ht n0 n1 o0 o1 u0 u1 a0 a1 hp];simp[Result.andThen]) _ _) h
end
section
variable {ty ta:TypeId}{B b:Nat}{w w' w'':World}{ps:List Value}{ls:List (List (BitVec 64))}
end
end Go.Pn
end
section
namespace Go.Pn.Bt
open Go Go.Pn Go.Pn.Jn
section
variable {l:List Ent}{most:Int}
theorem small_mid (h:small l most=true):Mid 20000 l:=λx hx=>by
 obtain ⟨h1,h2,h3,h4⟩:=Cn.small_iff ((small_iff h).2 x hx).2;exact ⟨by omega,by omega,by omega,λy hy=>by have:=h4 y hy;omega⟩
end
end Go.Pn.Bt
end
section
namespace Go.Pn.Dg
open Go Go.Pn
theorem ix_lt (c:Chg){n:Nat}(h:0<n)(h2:n<2^64):ix c n<n:=by
 unfold ix;rw[BitVec.toNat_umod,BitVec.toNat_ofNat,Nat.mod_eq_of_lt h2];exact Nat.mod_lt _ h
theorem pos_of {n:Nat}(h:0#64<BitVec.ofNat 64 n):0<n:=by
 rcases n with _|n
 ·exact absurd h (by decide)
 ·omega
theorem zero_of {n:Nat}(hn:n<2^64)(h:¬0#64<BitVec.ofNat 64 n):n=0:=by
 have h2:¬(0<n):=λq=>h (by rw[BitVec.lt_def,BitVec.toNat_ofNat,BitVec.toNat_ofNat,Nat.mod_eq_of_lt hn];exact q)
 omega
theorem ix_int (c:Chg){n:Nat}(h:0<n)(h2:n<2^32):(BitVec.ofInt 64 c.leaf%BitVec.ofNat 64 n).toInt=(ix c n:Int):=by
 have h3:=ix_lt c h (by omega);rw[BitVec.toInt_eq_toNat_of_lt (by show 2*ix c n<2^64;omega)]
 rfl
theorem setS_at {l:List Leaf}{i:Nat}(h:i<l.length)(s:BitVec 64):setS l i s=l.set i (l[i].1,s):=by
 unfold setS;rw[List.getD_eq_getElem?_getD,List.getElem?_eq_getElem h]
 rfl
def changed (d:Dig)(c:Chg):Dig:=
 if c.what=2 then ⟨(made d c).ls,(made d c).bs.set (ix c 16) ((made d c).bs.getD (ix c 16) 0^^^c.sum),(made d c).rt⟩
 else if c.what=3 then ⟨(made d c).ls,(made d c).bs,(made d c).rt^^^c.sum⟩ else made d c
theorem cut_one {l:List Leaf}{c:Chg}(h:0<l.length)(h2:c.what=1){i:Nat}(hi:i=ix c l.length):cut l c=(setS l i c.sum).take i++(setS l i c.sum).drop (i+1):=by
 subst hi;unfold cut;rw[if_pos h,if_pos h2]
theorem cut_set {l:List Leaf}{c:Chg}(h:0<l.length)(h2:¬c.what=1){i:Nat}(hi:i=ix c l.length):cut l c=setS l i c.sum:=by
 subst hi;unfold cut;rw[if_pos h,if_neg h2]
theorem made_yes {d:Dig}{c:Chg}(h:c.made=true):made d c=grown (cut d.ls c):=if_pos h
theorem made_no {d:Dig}{c:Chg}(h:¬c.made=true):made d c=⟨cut d.ls c,d.bs,d.rt⟩:=if_neg h
theorem changed_2 {d:Dig}{c:Chg}(h:c.what=2):changed d c=⟨(made d c).ls,(made d c).bs.set (ix c 16) ((made d c).bs.getD (ix c 16) 0^^^c.sum),(made d c).rt⟩:=if_pos h
theorem changed_3 {d:Dig}{c:Chg}(h:¬c.what=2)(h2:c.what=3):changed d c=⟨(made d c).ls,(made d c).bs,(made d c).rt^^^c.sum⟩:=by
 unfold changed;rw[if_neg h,if_pos h2]
theorem changed_0 {d:Dig}{c:Chg}(h:¬c.what=2)(h2:¬c.what=3):changed d c=made d c:=by
 unfold changed;rw[if_neg h,if_neg h2]
theorem made_bs {d:Dig}(c:Chg)(h:d.bs.length=16):(made d c).bs.length=16:=by
 unfold made
 split
 ·exact bks_len _
 ·exact h
theorem made_ls (d:Dig)(c:Chg):(made d c).ls=cut d.ls c:=by
 unfold made
 split<;>rfl
theorem changed_ls (d:Dig)(c:Chg):(changed d c).ls=cut d.ls c:=by
 rw[<-made_ls];unfold changed
 split
 ·rfl
 ·split<;>rfl
theorem changed_bs {d:Dig}(c:Chg)(h:d.bs.length=16):(changed d c).bs.length=16:=by
 have h1:=made_bs c h;unfold changed
 split
 ·rw [List.length_set];exact h1
 ·split<;>exact h1
theorem setS_key {l:List Leaf}{i:Nat}{s:BitVec 64}{p:Str->Prop}(h:∀x∈l,p x.1):∀x∈setS l i s,p x.1:=by
 intro x hx
 by_cases hi:i<l.length
 ·rw [setS_at hi] at hx
  rcases List.mem_or_eq_of_mem_set hx with q|rfl
  ·exact h x q
  ·exact h l[i] (List.getElem_mem hi)
 ·unfold setS at hx
  rw[List.set_eq_of_length_le (by omega)] at hx;exact h x hx
theorem cut_key {l:List Leaf}{c:Chg}{p:Str->Prop}(h:∀x∈l,p x.1):∀x∈cut l c,p x.1:=by
 intro x hx;unfold cut at hx
 split at hx
 ·split at hx
  ·rcases List.mem_append.1 hx with q|q
   ·exact setS_key h x (List.mem_of_mem_take q)
   ·exact setS_key h x (List.mem_of_mem_drop q)
  ·exact setS_key h x hx
 ·exact h x hx
theorem cut_len (l:List Leaf)(c:Chg):(cut l c).length<=l.length:=by
 have hs:(setS l (ix c l.length) c.sum).length=l.length:=by unfold setS;rw[List.length_set]
 unfold cut
 split
 ·split
  ·rw [List.length_append,List.length_take,List.length_drop,hs]
   omega
  ·omega
 ·omega
end Go.Pn.Dg
end
section
namespace Go.Pn
open Go.RowKit
theorem Sl.freshF {α:Type}{G:Flat α}{w:World}{F:Nat->Prop}{v:Value}{xs:List α}{B:Nat}(h:Sl G.enc w F v xs)(hF:∀j,F j->B<=j):Sl G.enc w (λj=>B<=j∧j<w.heap.size) v xs:=by
 obtain ⟨h1,h2|⟨b,off,cap,cur,ty,fr,e,hb,hh,rest⟩⟩:=h
 ·exact ⟨h1,.inl h2⟩
 ·exact ⟨h1,.inr ⟨b,off,cap,cur,ty,fr,e,⟨hF b hb,lt_of_some hh⟩,hh,rest⟩⟩
section
variable {P:Program}{n':Nat}{ops rest:List Oper}{N:Val->World->Prop}{Z:List PanicEntry->World->Prop}{f:Val}{w:World}
 {d:Nat}{x y:Operand}{dT sT tr e:TypeId}{pos:String}{after:Array Edge}{α:Type}{G:Flat α}
end
end Go.Pn
end
