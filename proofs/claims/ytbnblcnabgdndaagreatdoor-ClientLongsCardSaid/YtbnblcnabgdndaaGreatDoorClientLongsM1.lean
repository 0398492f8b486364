/-
 The frame of a walk, control and plain operations: the weakest precondition of the kit over frames that are functions of slots. No condition.
-/
import Derived.WalkKit
import Derived.WalkSpells
import Derived.WalkLawsBesides
import Derived.Laws.AppendOwnNone
import Derived.Great.BuildSlice
import Derived.OrdersHeld
import Derived.Laws.Externs
import Derived.Laws.Cells
import Derived.Laws.Tables
import Derived.Laws.StructEq
import Derived.Deep.Draws
import Derived.Sort.Grow
import Derived.Maps.RangeRun
import Derived.MapKept
import Derived.Laws.RangeString
import Derived.ProofKit
import Derived.OpenShut
import Derived.WideKeyArgs
import Derived.LaidLaws
import Derived.Deep.DeepHandedRow
import Derived.Deep.DeepWitnessRowRef
import Derived.Lib.LaidTab
import Derived.Deep.Slices
import Derived.Lib.AppendZeros
import Derived.Lib.AppendStr
import Derived.Lib.IndexMore
import Derived.Lib.TrimByte
import Derived.Lib.ItoaMem
import Derived.Lib.AtoiAllCases
import Derived.Lib.Bytealg
import Derived.Lib.Join
import Derived.Lib.IndexLaws
import Derived.Scope
import Derived.Lib.SplitLaws
import Derived.Shelf.Strings.Builder1
import Derived.Shelf.Strings.Builder2
import Derived.Shelf.Strings.OnBuilder
import Derived.Shelf.Small.Strs
import Derived.Shelf.Strings.BuilderF
import Derived.Shelf.Strings.BuilderK
import Derived.Shelf.Utf8.RuneCount
import Derived.Shelf.Strings.Builder2Cap
import Derived.Shelf.Strconv.Atoi
import Derived.Shelf.Strconv.Itoa0
import Derived.Shelf.Strconv.Itoa1
import Derived.Shelf.LaysM
import Derived.Shelf.Strconv.Itoa2
import Derived.Shelf.Strconv.Itoa3
import Derived.Shelf.Strconv.AtoiErrFast
import Derived.Shelf.Strconv.ParseIntEmpty
import Derived.Shelf.Strconv.AtoiFail
import Derived.Shelf.Strconv.Clone
import Derived.Shelf.Strconv.SyntaxError
import Derived.Shelf.LaysC
import Derived.Shelf.Strconv.ToError
import Derived.Shelf.Strconv.Lower
import Derived.Shelf.Strconv.ParseUint10
import Derived.Shelf.Strconv.ParseUint10Empty
import Derived.Shelf.Strconv.ParseUint10Any
import Derived.Shelf.Strconv.ParseInt10
import Derived.Shelf.Strconv.AtoiLong
import Derived.Shelf.Strconv.AtoiInnerAll
import Derived.Shelf.Strconv.RangeError
import Derived.Shelf.Strconv.ToErrorRange
import Derived.Shelf.Strconv.AtoiAll
import Derived.Shelf.Strconv.ErrVarAll
import Derived.Shelf.Strings.Search1
import Derived.Shelf.Strings.Search2
import Derived.Shelf.Strings.Search3
import Derived.Shelf.Strings.Cut
import Derived.Shelf.Strings.Count
import Derived.Shelf.Strings.Shaped
import Derived.Shelf.Strings.Prefix
import Derived.Shelf.Strings.Split
import Derived.Shelf.Strings.SplitShaped
import Derived.Shelf.Unicode.Decode
import Derived.Shelf.Strings.RuneCount
import Derived.Shelf.Strings.Explode
import Derived.Shelf.Unicode.DecodeSlow
import Derived.Shelf.Unicode.DecodeAny
import Derived.Shelf.Strings.BuilderCap
import Derived.Test.YtbnblcnabgdndaaGreatDoorProg
import Derived.Lib.SmallJoins
import Derived.Test.YtbnblcnabgdndaaGreatDoorCards
import Derived.Test.YtbnblcnabgdndaaGreatDoorTie
import Derived.Test.YtbnblcnabgdndaaGreatDoorClientM5
variable {P:Go.Program}{n:Nat}{ops rest:List Go.Oper}{N:Go.Pn.Val->Go.World->Prop}{Z:List Go.PanicEntry->Go.World->Prop}{f:Go.Pn.Val}{w:Go.World}
section
namespace Go.Pn
open Go.RowKit
section
variable {P:Program}{n:Nat}{N N':Val->World->Prop}{X:Nat->Val->World->Prop}{R:Val->World->Prop}{Z:List PanicEntry->World->Prop}{f:Val}{w:World}{a b c:Code}
end
section
variable {P:Program}{n:Nat}{N:Val->World->Prop}{X:Nat->Val->World->Prop}{Z:List PanicEntry->World->Prop}{f:Val}{w:World}
end
section
theorem argsN:([]:List Operand).map (ev n f)=[]:=rfl
end
end Go.Pn
end
section
namespace Go.Pn
open Go.RowKit
section
variable {w w':World}{b:Nat}{ty:TypeId}{cs:List Value}
theorem Own0.set (h:Own0 w b ty cs)(i:Nat)(v:Value):Own0 (w.setCell ⟨b,i,none⟩ v) b ty (cs.set i v):=heap_set w b i v h
end
section
variable {α:Type}{E:Enc α}{G:Flat α}{w w':World}{F F':Nat->Prop}{v:Value}{xs:List α}{b off:Nat}{ty:TypeId}{cs:List Value}
end
section
variable {α:Type}{G:Flat α}{w w':World}{F:Nat->Prop}{v:Value}{xs ys:List α}{b B:Nat}{ty:TypeId}{cs:List Value}
end
section
variable
 {d:Nat}{x y:Operand}{t t' ty tr e:TypeId}{pos:String}{after:Array Edge}{α:Type}{E:Enc α}{G:Flat α}{F:Nat->Prop}
theorem O.mkF {i:TypeInfo}{z:Value}{zx:α}{m B:Nat}{k:IntKind}(ht:P.underlying t=some (.slice e))(hi:P.info? e=some i)(hz:i.zero=some z)(hsz:i.size=G.sz)(hzx:z.cells.toList=G.e zx)
 (hx:ev n f x=.int k (m:Int))(hy:ev n f y=.int k (m:Int))(hb:i.bytes*m<=281474976710656)(hm:m<=maxLen)(hB:B<=w.heap.size)
 (h:∀b w',w.heap.size<=b->Own0 w' b e ((List.replicate m zx).flatMap G.e)->OwnF G e B w' (.slice (some ⟨b,0,none⟩) m m) (List.replicate m zx)->Le w w'->O P n ops rest N Z (upd f d (.slice (some ⟨b,0,none⟩) m m)) w'):
 O P n ops (ZO d (.makeSlice t x y) tr pos after::rest) N Z f w:=by
 have hcells:(madeCells z.cells (m*G.sz)).toList=(List.replicate m zx).flatMap G.e:=by
  apply List.ext_getElem?
  intro j;have hzsz:z.cells.size=G.sz:=by rw[<-Array.length_toList,hzx,G.len]
  by_cases hj:j<m*G.sz
  ·have h1:((List.replicate m zx).flatMap G.e)[j]? =(G.e zx)[j%G.sz]? :=by
    have hlt:j<((List.replicate m zx).flatMap G.e).length:=by rw[G.length];simpa using hj
    obtain ⟨hi,hu⟩:=G.get (List.replicate m zx) (List.getElem?_eq_getElem hlt);rw[List.getElem?_eq_getElem hlt,<-hu]
    simp
   have hjm:j%G.sz<z.cells.size:=by rw[hzsz];exact Nat.mod_lt _ G.pos
   rw[h1,<-hzx];simp only[madeCells,Array.toList_map,Array.toList_range,List.getElem?_map,List.getElem?_range hj,Option.map_some,Array.getElem?_toList];rw[hzsz,getElem!_pos z.cells _ hjm,Array.getElem?_eq_getElem hjm]
  ·rw [List.getElem?_eq_none (by simp[size_madeCells];omega),List.getElem?_eq_none (by rw[G.length];simp;omega)]
 have hown:Own0 (w.alloc (.cells (madeCells z.cells (m*G.sz)) e)) w.heap.size e ((List.replicate m zx).flatMap G.e):=by
  have:=Own0.new w e (madeCells z.cells (m*G.sz)).toList;rwa [Array.toArray_toList,hcells] at this
 have hl:((List.replicate m zx).flatMap G.e).length=m*G.sz:=by rw[G.length];simp
 refine O.val rfl rfl ?_ (h w.heap.size (w.alloc (.cells (madeCells z.cells (m*G.sz)) e)) (Nat.le_refl _) hown ?_ (Le.alloc _ _))
 ·have h3:execOp (ev n f) (ZO d (.makeSlice t x y) tr pos after)=(do pure (.value (<-Instr.makeSlice t (ev n f x) (ev n f y)))):=rfl
  have h63:(m:Int)<=9223372036854775807:=by have:=hm;unfold maxLen at this;omega
  have hb':(i.bytes:Int)*(m:Int)<=281474976710656:=by
   have h:((i.bytes*m:Nat):Int)<=281474976710656:=by omega
   rwa [Int.natCast_mul] at h
  rw[h3,Sem.run_bind,hx,hy,run_make (P:=P) w t e i z ht hi hz k k m m (by omega) (Int.le_refl _) hb' h63]
  simp[hsz]
 ·refine ⟨⟨by simpa using G.length (List.replicate m zx),.inr ⟨w.heap.size,m,_,by simp,hB,hown,by simp,hm,?_,?_⟩⟩,by simpa using hm⟩
  ·simp [hl]
  ·show List.take ((List.replicate m zx).length*G.sz) _=_
   rw[List.length_replicate,<-hl];exact List.take_length
end
end Go.Pn
end
section
namespace Go.Pn
open Go.RowKit
theorem run_storeCells_own0 {P:Program}{b:Nat}{ty:TypeId}:∀(vs:List Value) (o i:Nat) (cs:List Value) (w:World),Own0 w b ty cs->o+i+vs.length<=cs.length->(∀v∈vs,v.oneCell'=true)->
 ∃w',(storeCells ⟨b,o,none⟩ vs i).run P w=.ok () w'∧Own0 w' b ty (cs.take (o+i)++vs++cs.drop (o+i+vs.length))∧Ext (λk=>k=b) w w'∧w'.heap.size=w.heap.size:=by
 intro vs
 induction vs with
 |nil=>
  intro o i cs w ho _ _;exact ⟨w,rfl,by simpa using ho,Ext.L _ _,rfl⟩
 |cons v vs ih=>
  intro o i cs w ho hl h1;have hl':o+i<cs.length:=by simp at hl;omega
  have hv:=h1 v (by simp);have hc:=ho.own.cell (i:=o+i) (v:=cs[o+i]) (by simp);have hf:=ho.own.free hl';have ho':=ho.set (o+i) v;obtain ⟨w',hr,ho2,he,hs⟩:=ih o (i+1) (cs.set (o+i) v) _ ho' (by simp at hl ⊢;omega) (λu hu=>h1 u (by simp[hu]));refine ⟨w',?_,?_,(Ext.set w ⟨b,o+i,none⟩ v).trans he,by rw[hs];simp⟩
  ·have e:storeCells ⟨b,o,none⟩ (v::vs) i=(do store ((⟨b,o,none⟩:Addr).add i) v;storeCells ⟨b,o,none⟩ vs (i+1)):=rfl
   rw[e,Sem.run_bind,Addr.add_none];have hst:(store ⟨b,o+i,none⟩ v).run P w=.ok () (w.setCell ⟨b,o+i,none⟩ v):=by
    have:=run_store P w ⟨b,o+i,none⟩ v .plain hv
    simpa[hc,hf] using this
   rw[hst,Result.andThen_ok,hr]
  ·have e1:(cs.set (o+i) v).take (o+(i+1))=cs.take (o+i)++[v]:=by
    rw[show o+(i+1)=o+i+1 by omega,List.take_succ_eq_append_getElem (by simpa using hl')];rw[List.take_set,List.set_eq_of_length_le (by simp;omega)]
    simp
   have e2:(cs.set (o+i) v).drop (o+(i+1)+vs.length)=cs.drop (o+i+(vs.length+1)):=by
    rw[List.drop_set_of_lt (by omega)]
    congr 1
    omega
   rw[e1,e2] at ho2
   simpa using ho2
section
variable {α:Type}{G:Flat α}{ty:TypeId}{B:Nat}{w:World}{g cap:Nat}{xs:List α}
theorem Flat.drop (G:Flat α)(xs:List α)(i:Nat):(xs.flatMap G.e).drop (i*G.sz)=(xs.drop i).flatMap G.e:=by
 induction xs generalizing i with
 |nil=>simp
 |cons x xs ih=>
  cases i with
  |zero=>simp
  |succ i=>
   rw[List.flatMap_cons,List.drop_succ_cons,<-ih i,Nat.add_mul,Nat.one_mul,Nat.add_comm];rw[show G.sz+i*G.sz=(G.e x).length+i*G.sz by rw[G.len],List.drop_length_add_append]
theorem OwnF.puts (P:Program)(ys:List α)(i:Nat)(h:OwnF G ty B w (.slice (some ⟨g,0,none⟩) xs.length cap) xs)(hi:i+ys.length<=xs.length):
 ∃w',(storeCells ⟨g,i*G.sz,none⟩ (ys.flatMap G.e) 0).run P w=.ok () w'∧OwnF G ty B w' (.slice (some ⟨g,0,none⟩) xs.length cap) (xs.take i++ys++xs.drop (i+ys.length))∧Ext (λk=>k=g) w w'∧w'.heap.size=w.heap.size:=by
 obtain ⟨h0,hm⟩:=h;rcases h0.2 with ⟨h1,_⟩|⟨g',cap',cur,h1,hb,hg,hn,hc,hsz,ht⟩
 ·cases h1
 ·have e1:g=g':=by cases h1;rfl
  have e2:cap=cap':=by cases h1;rfl
  subst e1;subst e2;have hmul:(i+ys.length)*G.sz=i*G.sz+ys.length*G.sz:=by rw[Nat.add_mul]
  have hle:i*G.sz+ys.length*G.sz<=xs.length*G.sz:=by rw[<-hmul];exact Nat.mul_le_mul_right _ hi
  have hle2:xs.length*G.sz<=cap*G.sz:=Nat.mul_le_mul_right _ hn;have h00:Own0 w g ty cur.toList:=by simpa[Own0] using hg
  obtain ⟨w',hr,ho,he,hs⟩:=run_storeCells_own0 (P:=P) (ys.flatMap G.e) (i*G.sz) 0 cur.toList w h00 (by rw[G.length];simp;omega) (G.ones ys);rw[Nat.add_zero,G.length] at ho;have hlen:(xs.take i++ys++xs.drop (i+ys.length)).length=xs.length:=by simp;omega
  refine ⟨w',hr,⟨⟨by rw[G.length],.inr ⟨g,cap,(cur.toList.take (i*G.sz)++ys.flatMap G.e++cur.toList.drop (i*G.sz+ys.length*G.sz)).toArray,by rw[hlen],hb,ho,by rw[hlen];exact hn,hc,?_,?_⟩⟩,by rw[hlen];exact hm⟩,he,hs⟩
  ·simp [G.length]
   omega
  ·rw [hlen]
   simp only[];have q1:(cur.toList.take (i*G.sz))=(xs.take i).flatMap G.e:=by
    rw[<-G.take,<-ht,List.take_take,Nat.min_eq_left (by omega)]
   have q2:(cur.toList.drop (i*G.sz+ys.length*G.sz)).take (xs.length*G.sz-(i*G.sz+ys.length*G.sz))=(xs.drop (i+ys.length)).flatMap G.e:=by
    rw[<-G.drop,<-ht,hmul,List.drop_take]
   have hAB:(cur.toList.take (i*G.sz)++ys.flatMap G.e).length=i*G.sz+ys.length*G.sz:=by
    rw[List.length_append,List.length_take,G.length,Array.length_toList,Nat.min_eq_left (by omega)]
   rw[List.flatMap_append,List.flatMap_append,<-q1,<-q2,List.take_append,List.take_of_length_le (by rw[hAB];exact hle),hAB]
end
section
variable {α:Type}{G:Flat α}{ty:TypeId}{B:Nat}{w:World}{g cap:Nat}{xs:List α}
end
section
variable
 {d:Nat}{x y:Operand}{t e ty tr:TypeId}{pos:String}{after:Array Edge}{α:Type}{G:Flat α}{B g cap:Nat}{xs:List α}
theorem O.storeG {i:Nat}(z:α)(hsz:∀w,(sizeOf t).run P w=.ok G.sz w)(hx:ev n f x=.pointer (some ⟨g,i*G.sz,none⟩))(hy:ev n f y=.agg (G.e z).toArray)(ho:OwnF G ty B w (.slice (some ⟨g,0,none⟩) xs.length cap) xs)(hi:i<xs.length)
 (h:∀w',OwnF G ty B w' (.slice (some ⟨g,0,none⟩) xs.length cap) (xs.set i z)->Ext (λk=>k=g) w w'->w'.heap.size=w.heap.size->O P n ops rest N Z f w'):
 O P n ops ({dst:=.none,op:=.store t x y,type:=tr,pos:=pos,after:=after,guard:=.none}::rest) N Z f w:=by
 obtain ⟨w',hr,ho',he,hs⟩:=ho.puts P [z] i (by simp;omega);have hset:xs.take i++[z]++xs.drop (i+[z].length)=xs.set i z:=by
  rw[List.set_eq_take_append_cons_drop,if_pos hi]
  simp
 rw[hset] at ho';refine O.act rfl rfl ?_ (h w' ho' he hs);have h3:execOp (ev n f) {dst:=.none,op:=.store t x y,type:=tr,pos:=pos,after:=after,guard:=.none}=(do Instr.storeAt t (ev n f x) (ev n f y);pure .skip):=rfl;rw[h3,Sem.run_bind,hx,hy];have hr2:(storeCells ⟨g,i*G.sz,none⟩ (G.e z) 0).run P w=.ok () w':=by simpa using hr
 have h4:(Instr.storeAt t (.pointer (some ⟨g,i*G.sz,none⟩)) (.agg (G.e z).toArray)).run P w=.ok () w':=by
  simp[Instr.storeAt,Instr.sureAddr,storeVar,hsz,Value.cells,G.len,hr2]
 rw[h4]
 rfl
end
section
variable
 {d:Nat}{x y:Operand}{t t' tr:TypeId}{pos:String}{after:Array Edge}
end
end Go.Pn
end
section
namespace Go.Pn
open Go.ChangeShapes Go.WideShapes Go.ChangeAt Go.RowKit
section
variable {H:Type}{enc:TypeId×Value->H}{P:Program}{W W':World}
theorem kept_of_le (e:Le W W')(may:MemPlace->Prop):W.keptBut W' may:=by
 refine ⟨e.os,e.output,λi hi=>?_⟩;rw[e.block i hi not_false];cases h:W.heap[i]? with
 |none=>rfl
 |some o=>cases o<;>first|exact ⟨rfl,rfl,rfl,λ_ _=>rfl⟩|exact .inr ⟨rfl,rfl⟩|rfl
theorem frozen_of_le (e:Le W W'){a:Addr}(h:a.block<W.heap.size):W'.frozen? a=W.frozen? a:=by
 unfold World.frozen?;rw[e.block _ h not_false]
theorem same_of_le (e:Le W W'){p:MemPlace}(h:p.block<W.heap.size):W.sameAt W' p:=by
 cases p with
 |cell b off=>show W'.cell? _=W.cell? _;unfold World.cell?;rw[e.block b h not_false]
 |map b=>exact e.block b h not_false
theorem args_of_le (hl:laidOutB P=true)(e:Le W W'){sp:Nat->Bool}:∀{ts:List TypeId} {vs:List Value} {ds:List (DataW H)} {ps:List MemPlace},
 (ts.all λt=>P.readableRec t&&decide (t<P.types.size))=true->DataW.TrodAll enc P W 0 (λ_=>true) true ts vs ds ps->(∀p∈ps,p.block<W.heap.size∧sp p.block=true)->DataW.TrodAll enc P W' 0 sp true ts vs ds ps
 |[],[],[],_,_,h,_=>h
 |[],[],_::_,_,_,h,_=>h.elim
 |[],_::_,[],_,_,h,_=>h.elim
 |[],_::_,_::_,_,_,h,_=>h.elim
 |_::_,[],[],_,_,h,_=>h.elim
 |_::_,[],_::_,_,_,h,_=>h.elim
 |_::_,_::_,[],_,_,h,_=>h.elim
 |_::_,_::_,_::_,_,ht,⟨p,q,h1,h2,e1⟩,hs=>by
  simp only[List.all_cons,Bool.and_eq_true,decide_eq_true_eq] at ht;subst e1;refine ⟨p,q,WideElems.Trod_stays hl ht.1.1 ht.1.2 h1 (λx hx=>same_of_le e (hs x (List.mem_append_left _ hx)).1) (λx hx=>(hs x (List.mem_append_left _ hx)).2),args_of_le hl e ?_ h2 (λx hx=>hs x (List.mem_append_right _ hx)),rfl⟩
  simpa using ht.2
theorem post_of_le {f:Func}{s:ChangeSpec}{fresh handsOn again:Bool}{args:Array Value}{ds gs:List (DataW H)}{before:List MemPlace}{tb:TypeId}
 (hl:laidOutB P=true)(hp:(f.params.toList.all λt=>P.readableRec t&&decide (t<P.types.size))=true)(hv:s.vars=[])(hr:f.resultTypes=#[tb])(hb:P.underlying tb=some .bool)
 (hW:DataW.Whole enc P f.params.toList s.vars false W args.toList ds gs before)(e:Le W W')
 (hs:s.fn H (ds++gs)={results:=[.lit (.bool true)],args:=ds}):s.post enc P f false fresh handsOn again W args (.bool true) W':=by
 have hlt:=hW.lt;have hW0:=hW;obtain ⟨p,q,hA,hV,rfl,hz,_⟩:=hW;rw[hv] at hV;obtain ⟨rfl,rfl⟩:=trodVars_none hV;have hres:∀(b:Nat) (sp:Nat->Bool) (hd:Bool),DataW.TrodAll enc P W' b sp hd f.resultTypes.toList ((Value.bool true).resultList f.resultTypes.size) (s.fn H (ds++[])).results []:=by
  intro b sp hd;rw[hs,hr];exact trodAll_cons_mk (shut_bool hb _) trodAll_mk0
 have hargs:∀sp:Nat->Bool,(∀x∈p,sp x.block=true)->DataW.TrodAll enc P W' 0 sp true f.params.toList args.toList (s.fn H (ds++[])).args p:=by
  intro sp hsp;rw[hs];exact args_of_le hl e hp hA λx hx=>⟨hlt x (by simpa using hx),hsp x hx⟩
 have hvars:∀sp:Nat->Bool,DataW.TrodVars enc P W' sp s.vars (s.fn H (ds++[])).vars []:=by
  intro sp;rw[hs,hv]
  rfl
 have hold:∀x∈p,(λb=>decide (b<W.heap.size)) x.block=true:=λx hx=>by simpa using hlt x (by simpa using hx)
 refine ⟨ds,[],p++[],[],p,[],hW0,hres _ _ _,hargs _ hold,hvars _,World.keptBut_mono (λx hx=>⟨hx,.inr (by simpa using hx)⟩) (kept_of_le e _),λ_=>?_⟩;refine ⟨ok_one hr rfl (okWide_bool_mk hb _),_,_,([]++p)++[],⟨[]++p,[],trodAll_append (hargs _ (λ_ _=>rfl)) (hres _ _ _),hvars _,rfl,?_,?_⟩,?_⟩
 ·intro b off hx
  have hx2:MemPlace.cell b off∈p:=by simpa using hx
  rw[frozen_of_le e (hlt _ (by simpa using hx2))];exact hz b off (by simpa using hx2)
 ·intro ha;cases ha
 ·intro x hx _
  simpa using hx
theorem u_of {t:TypeId}{base m:Nat}{k:IntKind}{v:Value}{d:DataW H}{p:List MemPlace}(ht:P.underlying t=some (.int k))(hk:k.min=0)(hk2:k.max=2^m-1)(hval:Value.okWide P W .any base t v)(h:DataW.Trod enc P W 0 (λ_=>true) true t v d p):
 ∃x:BitVec m,v=.int k (x.toNat:Int):=by
 obtain ⟨z,rfl,_,_,hw⟩:=open_int ht hval h;simp only[Lit.wf,Bool.and_eq_true,decide_eq_true_eq] at hw;refine ⟨BitVec.ofInt m z,?_⟩
 congr 1
 rw[BitVec.toNat_ofInt];have h1:(2^m:Int)=((2^m:Nat):Int):=by norm_cast
 have hp:0<2^m:=Nat.pow_pos (by decide);rw[Int.emod_eq_of_lt (by omega) (by omega)]
 omega
theorem i_of {t:TypeId}{base:Nat}{v:Value}{d:DataW H}{p:List MemPlace}(ht:P.underlying t=some (.int .i64))(hval:Value.okWide P W .any base t v)(h:DataW.Trod enc P W 0 (λ_=>true) true t v d p):
 ∃z:Int,v=.int .i64 z∧InI z:=by
 obtain ⟨z,rfl,_,_,hw⟩:=open_int ht hval h;simp only[Lit.wf,Bool.and_eq_true,decide_eq_true_eq] at hw;refine ⟨z,rfl,?_⟩;unfold InI;have e1:IntKind.i64.min= -9223372036854775808:=rfl;have e2:IntKind.i64.max=9223372036854775807:=rfl
 omega
end
theorem calls_of {P:Program}{k:FuncId}{args:Array Value}{W:World}{Q:Value->World->Prop}(h:Ret P k args W λv w'=>v=.bool true∧Le W w')(hq:∀w',Le W w'->Q (.bool true) w'):
 Calls P k args W λe W'=>∃v,e=.returned v∧Q v W':=by
 refine Calls.mono h λe W' hh=>?_
 cases e with
 |returned v=>obtain ⟨rfl,e⟩:=hh;exact ⟨_,rfl,hq _ e⟩
 |_=>exact hh.elim
end Go.Pn
end
section
namespace Go.Pn.Dt
open Go.Lib
def rfrom:Nat->Int->Int->List UInt8->Option Dot
 |_,a,b,[]=>some (a,b)
 |k,a,b,c::l=>
  if 48#8<=c.toBitVec∧c.toBitVec<=57#8 then (if k=0 then rfrom 0 (cap (10*a+c.toNat-48)) b l else rfrom k a (cap (10*b+c.toNat-48)) l)
  else if c.toBitVec=46#8∧k=0 then rfrom 1 a b l
  else none
def rparse (s:List UInt8):Option Dot:=
 match rfrom 0 0 0 s with
 |some d=>if Valid d∧text d=s then some d else none
 |none=>none
end Go.Pn.Dt
end
section
namespace Go.Pn.Vc
open Go Go.Pn Go.Pn.Cn
def many:List (List UInt8)->Option V
 |[]=>some []
 |p::q=>match Dt.rparse p with
  |none=>none
  |some d=>(many q).map (d:: ·)
end Go.Pn.Vc
end
section
namespace Go.Pn.Cl
open Go Go.Pn Go.Lib
def fillF {α:Type}(f:Nat->α)(z:α)(n i:Nat):List α:=(List.range i).map f++List.replicate (n-i) z
section
variable {α:Type}{f:Nat->α}{z:α}{n i:Nat}
theorem fillF_len (hi:i<=n):(fillF f z n i).length=n:=by unfold fillF;simp;omega
theorem fillF_0:List.replicate n z=fillF f z n 0:=by unfold fillF;simp
theorem fillF_set (hi:i<n):(fillF f z n i).set i (f i)=fillF f z n (i+1):=by
 unfold fillF;have e:n-i=(n-(i+1))+1:=by omega
 have hl:((List.range i).map f).length=i:=by simp
 rw[List.set_append_right i (f i) (by rw[hl];exact Nat.le_refl _),hl,Nat.sub_self,e,List.replicate_succ,List.set_cons_zero,List.range_succ,List.map_append]
 simp
theorem fillF_all (hi:n<=i)(hi2:i<=n):fillF f z n i=(List.range n).map f:=by
 have e:i=n:=by omega
 subst e;unfold fillF
 simp
end
theorem Tx.no {c:Call}{t:Str}{e:Int}(h:Tx c t e)(he:valid c=false):t=[]∧e=2:=by
 rcases h with ⟨h1,_⟩|⟨_,h2,h3⟩
 ·rw [he] at h1;cases h1
 ·exact ⟨h2,h3⟩
theorem Tx.yes {c:Call}{t:Str}{e:Int}(h:Tx c t e)(he:valid c=true):t=text c∧e=0:=by
 rcases h with ⟨_,h2,h3⟩|⟨h1,_⟩
 ·exact ⟨h2,h3⟩
 ·rw [he] at h1;cases h1
theorem Sd.no {c:Ans}{t:Str}{e:Int}(h:Sd c t e)(he:hasT c=false):t=[]∧e=2:=by
 rcases h with ⟨h1,_⟩|⟨_,h2,h3⟩
 ·rw [he] at h1;cases h1
 ·exact ⟨h2,h3⟩
theorem Sd.yes {c:Ans}{t:Str}{e:Int}(h:Sd c t e)(he:hasT c=true):t=said c∧e=0:=by
 rcases h with ⟨_,h2,h3⟩|⟨h1,_⟩
 ·exact ⟨h2,h3⟩
 ·rw [he] at h1;cases h1
abbrev longC (data:Str):Call:=⟨8,[],[],[],0,data⟩
theorem long_yes {data:Str}(h:data.length<=65536):valid (longC data)=true:=by
 refine valid_iff.2 ⟨rfl,h,λx hx=>?_⟩;simp only[tags,List.mem_cons,List.not_mem_nil,or_false] at hx;rcases hx with rfl|rfl|rfl|rfl|rfl<;>rfl
theorem long_no {data:Str}(h:65536<data.length):valid (longC data)=false:=by
 rw[Bool.eq_false_iff];intro q;have:data.length<=65536:=(valid_iff.1 q).2.1
 omega
theorem text_long {data:Str}(h:data≠[]):((text (longC data)).length:Int)=8+2*(data.length:Int):=by
 have e:text (longC data)=Vc.jn [[100,101,108,105,118,101,114],hex data]:=by
  show Vc.jn (_::[if data=[] then [45] else hex data])=_;rw[if_neg h]
  rfl
 rw[e,jn_two,jn_one]
 simp[hex_len]
 omega
theorem bytes_long {data:Str}(h:data.length<=65538):(bytes (longC data)).length<=300000:=by
 have:=bytes_sm (n:=65538) (c:=longC data) ⟨Nat.zero_le _,Nat.zero_le _,Nat.zero_le _,h⟩ (by decide)
 omega
abbrev longA (data:Str):Ans:=⟨10,0,1,[],[data]⟩
theorem longA_in (data:Str):InA (longA data):=⟨in0,(by unfold InI64;show-9223372036854775808<=(1:Int)∧(1:Int)<=_;omega),λx h=>(by cases h)⟩
theorem longA_yes {data:Str}(h0:1<=data.length)(h:data.length<=65536):hasT (longA data)=true:=by
 refine hasT_iff.2 ⟨⟨rfl,by show (0:Int)<=0∧(0:Int)<=99∧(0:Int)<=1;decide,.inr rfl,.inl rfl,Nat.zero_le _,by show 1<=1024;decide⟩,λx hx=>(by cases hx),λx hx=>?_,.inl rfl⟩;rw[List.mem_singleton.1 hx];exact decide_eq_true ⟨h0,h⟩
theorem longA_no {data:Str}(h:65536<data.length):hasT (longA data)=false:=by
 rw[Bool.eq_false_iff];intro q;have:=of_decide_eq_true ((hasT_iff.1 q).2.2.1 data (by simp))
 omega
theorem longA_len {data:Str}(h0:1<=data.length)(h:data.length<=65536):(said (longA data)).length<=300000:=by
 have h1:=lns_le (l:=rowsT (longA data)) (r:=131072) (rowsT_le (longA_yes h0 h) (longA_in data));have h2:(rowsT (longA data)).length=2:=rfl;unfold said;rw[h2] at h1
 omega
def lnF (i:Nat):Line:=([110],(i:Int))
abbrev linesA (m:Nat):Ans:=⟨4,0,0,(List.range m).map lnF,[]⟩
theorem linesA_len (m:Nat):(linesA m).lines.length=m:=by show ((List.range m).map lnF).length=m;simp
theorem linesA_in {m:Nat}(h:m<=2000):InA (linesA m):=⟨in0,in0,λx hx=>by
 obtain ⟨i,hi,rfl⟩:=List.mem_map.1 hx;have:=List.mem_range.1 hi;unfold InI64 lnF;simp only
 omega⟩
theorem linesA_short {m:Nat}(h:m<=2000):ShortA (linesA m):=⟨by rw[linesA_len];omega,by show 0<=_;omega,λx hx=>by
 obtain ⟨i,hi,rfl⟩:=List.mem_map.1 hx;show 1<=_
 decide,λx hx=>(by cases hx)⟩
theorem lnF_ok (i:Nat):lineOk (lnF i)=true:=lineOk_of (by show between 32 [110]=true;decide) (by unfold lnF;simp only;omega)
theorem linesA_yes {m:Nat}(h:m<=1024):hasT (linesA m)=true:=by
 refine hasT_iff.2 ⟨⟨by show isOp 4=true;decide,by show (0:Int)<=0∧(0:Int)<=99∧(0:Int)<=0;decide,.inl rfl,.inr rfl,by rw[linesA_len];exact h,by show 0<=_;omega⟩,λx hx=>?_,λx hx=>(by cases hx),.inl rfl⟩;obtain ⟨i,_,rfl⟩:=List.mem_map.1 hx;exact lnF_ok i
theorem linesA_no {m:Nat}(h:1024<m):hasT (linesA m)=false:=by
 rw[Bool.eq_false_iff];intro q;have:=(hasT_iff.1 q).1.2.2.2.2.1;rw[linesA_len] at this
 omega
theorem linesA_said {m:Nat}(h:m<=1024):(said (linesA m)).length<=300000:=by
 have h0:=linesA_yes h;have hA:=linesA_in (m:=m) (by omega);have h1:=lns_le (l:=rowsT (linesA m)) (r:=200) λx hx=>by
  rcases List.mem_cons.1 hx with rfl|hx
  ·have:=first_le (hasT_iff.1 h0).1.1 hA;omega
  ·rcases List.mem_append.1 hx with hx|hx
   ·obtain ⟨l,hl,rfl⟩:=List.mem_map.1 hx
    exact lineT_le ((hasT_iff.1 h0).2.1 l hl) (hA.2.2 l hl)
   ·cases hx
 have h2:(rowsT (linesA m)).length<=1025:=by
  unfold rowsT;rw[List.length_cons,List.length_append,List.length_map,linesA_len];show m+0+1<=_
  omega
 have h3:=Nat.mul_le_mul_right (200+1) h2;unfold said
 omega
end Go.Pn.Cl
end
