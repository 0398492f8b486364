/-
 The frame of a walk, control and plain operations: the weakest precondition of the kit over frames that are functions of slots. No condition.
-/
import Derived.WalkKit
import Derived.WalkSpells
import Derived.WalkLawsBesides
import Derived.Laws.AppendOwnNone
import Derived.Great.BuildSlice
import Derived.OrdersHeld
import Derived.Laws.Externs
import Derived.Laws.Cells
import Derived.Laws.Tables
import Derived.Laws.StructEq
import Derived.Deep.Draws
import Derived.Sort.Grow
import Derived.Maps.RangeRun
import Derived.MapKept
import Derived.Laws.RangeString
import Derived.ProofKit
import Derived.OpenShut
import Derived.WideKeyArgs
import Derived.LaidLaws
import Derived.Deep.DeepHandedRow
import Derived.Deep.DeepWitnessRowRef
import Derived.Lib.LaidTab
import Derived.Deep.Slices
import Derived.Lib.AppendZeros
import Derived.Lib.AppendStr
import Derived.Lib.IndexMore
import Derived.Lib.TrimByte
import Derived.Lib.ItoaMem
import Derived.Lib.AtoiAllCases
import Derived.Lib.Bytealg
import Derived.Lib.Join
import Derived.Lib.IndexLaws
import Derived.Scope
import Derived.Test.YtbnblcnabgdndaaGreatDoorClientM5
section
namespace Go.Pn
open Go.RowKit
section
variable {P:Program}{n:Nat}{N N':Val->World->Prop}{X:Nat->Val->World->Prop}{R:Val->World->Prop}{Z:List PanicEntry->World->Prop}{f:Val}{w:World}{a b c:Code}
end
section
variable {P:Program}{n:Nat}{N:Val->World->Prop}{X:Nat->Val->World->Prop}{Z:List PanicEntry->World->Prop}{f:Val}{w:World}
end
section
variable {P:Program}{n:Nat}{ops rest:List Oper}{N:Val->World->Prop}{Z:List PanicEntry->World->Prop}{f:Val}{w:World}
theorem argsN:([]:List Operand).map (ev n f)=[]:=rfl
end
end Go.Pn
end
section
namespace Go.Pn
open Go.RowKit
section
variable {w w':World}{b:Nat}{ty:TypeId}{cs:List Value}
end
section
variable {α:Type}{E:Enc α}{G:Flat α}{w w':World}{F F':Nat->Prop}{v:Value}{xs:List α}{b off:Nat}{ty:TypeId}{cs:List Value}
end
section
variable {α:Type}{G:Flat α}{w w':World}{F:Nat->Prop}{v:Value}{xs ys:List α}{b B:Nat}{ty:TypeId}{cs:List Value}
end
section
variable {P:Program}{n:Nat}{ops rest:List Oper}{N:Val->World->Prop}{Z:List PanicEntry->World->Prop}{f:Val}{w:World}
 {d:Nat}{x y:Operand}{t t' ty tr e:TypeId}{pos:String}{after:Array Edge}{α:Type}{E:Enc α}{G:Flat α}{F:Nat->Prop}
end
def u64F:Flat (BitVec 64):=⟨1,λx=>[.int .u64 (x.toNat:Int)],λ_=>rfl,by simp[Value.oneCell'],by decide⟩
end Go.Pn
end
section
namespace Go.Pn
section
variable {P:Program}{n:Nat}{ops rest l:List Oper}{N:Val->World->Prop}{Z:List PanicEntry->World->Prop}{f:Val}{w wB:World}
 {d:Nat}{x y:Operand}{t t' e tr ty:TypeId}{pos:String}{after:Array Edge}{α:Type}{E:Enc α}{F:Nat->Prop}
def u64E:Enc (BitVec 64):=Enc.flat 1 (λx=>[.int .u64 (x.toNat:Int)]) (λ_=>rfl) (by simp[Value.oneCell'])
theorem u64E.inv {v:Value}{x:BitVec 64}(h:u64E.rep w F [v] x):v=.int .u64 (x.toNat:Int):=by
 have:[v]=[Value.int .u64 (x.toNat:Int)]:=h
 simpa using this
theorem O.loadU64 {a:Addr}{z:BitVec 64}(hag:∀w,(isAgg t).run P w=.ok false w)(hx:ev n f x=.pointer (some a))(ha:At u64E w F a z)
 (h:O P n ops rest N Z (upd f d (.int .u64 (z.toNat:Int))) w):
 O P n ops (ZO d (.load t x) ty pos after::rest) N Z f w:=
 O.load1 hag rfl hx ha λv hv=>by rw[u64E.inv hv];exact h
variable {a b:BitVec 64}
end
end Go.Pn
end
section
namespace Go.Pn
open Go.ChangeShapes Go.WideShapes Go.ChangeAt Go.RowKit
section
variable {H:Type}{enc:TypeId×Value->H}{P:Program}{W W':World}
theorem kept_of_le (e:Le W W')(may:MemPlace->Prop):W.keptBut W' may:=by
 refine ⟨e.os,e.output,λi hi=>?_⟩;rw[e.block i hi not_false];cases h:W.heap[i]? with
 |none=>rfl
 |some o=>cases o<;>first|exact ⟨rfl,rfl,rfl,λ_ _=>rfl⟩|exact .inr ⟨rfl,rfl⟩|rfl
theorem frozen_of_le (e:Le W W'){a:Addr}(h:a.block<W.heap.size):W'.frozen? a=W.frozen? a:=by
 unfold World.frozen?;rw[e.block _ h not_false]
theorem same_of_le (e:Le W W'){p:MemPlace}(h:p.block<W.heap.size):W.sameAt W' p:=by
 cases p with
 |cell b off=>show W'.cell? _=W.cell? _;unfold World.cell?;rw[e.block b h not_false]
 |map b=>exact e.block b h not_false
theorem args_of_le (hl:laidOutB P=true)(e:Le W W'){sp:Nat->Bool}:∀{ts:List TypeId} {vs:List Value} {ds:List (DataW H)} {ps:List MemPlace},
 (ts.all λt=>P.readableRec t&&decide (t<P.types.size))=true->DataW.TrodAll enc P W 0 (λ_=>true) true ts vs ds ps->(∀p∈ps,p.block<W.heap.size∧sp p.block=true)->DataW.TrodAll enc P W' 0 sp true ts vs ds ps
 |[],[],[],_,_,h,_=>h
 |[],[],_::_,_,_,h,_=>h.elim
 |[],_::_,[],_,_,h,_=>h.elim
 |[],_::_,_::_,_,_,h,_=>h.elim
 |_::_,[],[],_,_,h,_=>h.elim
 |_::_,[],_::_,_,_,h,_=>h.elim
 |_::_,_::_,[],_,_,h,_=>h.elim
 |_::_,_::_,_::_,_,ht,⟨p,q,h1,h2,e1⟩,hs=>by
  simp only[List.all_cons,Bool.and_eq_true,decide_eq_true_eq] at ht;subst e1;refine ⟨p,q,WideElems.Trod_stays hl ht.1.1 ht.1.2 h1 (λx hx=>same_of_le e (hs x (List.mem_append_left _ hx)).1) (λx hx=>(hs x (List.mem_append_left _ hx)).2),args_of_le hl e ?_ h2 (λx hx=>hs x (List.mem_append_right _ hx)),rfl⟩
  simpa using ht.2
theorem post_of_le {f:Func}{s:ChangeSpec}{fresh handsOn again:Bool}{args:Array Value}{ds gs:List (DataW H)}{before:List MemPlace}{tb:TypeId}
 (hl:laidOutB P=true)(hp:(f.params.toList.all λt=>P.readableRec t&&decide (t<P.types.size))=true)(hv:s.vars=[])(hr:f.resultTypes=#[tb])(hb:P.underlying tb=some .bool)
 (hW:DataW.Whole enc P f.params.toList s.vars false W args.toList ds gs before)(e:Le W W')
 (hs:s.fn H (ds++gs)={results:=[.lit (.bool true)],args:=ds}):s.post enc P f false fresh handsOn again W args (.bool true) W':=by
 have hlt:=hW.lt;have hW0:=hW;obtain ⟨p,q,hA,hV,rfl,hz,_⟩:=hW;rw[hv] at hV;obtain ⟨rfl,rfl⟩:=trodVars_none hV;have hres:∀(b:Nat) (sp:Nat->Bool) (hd:Bool),DataW.TrodAll enc P W' b sp hd f.resultTypes.toList ((Value.bool true).resultList f.resultTypes.size) (s.fn H (ds++[])).results []:=by
  intro b sp hd;rw[hs,hr];exact trodAll_cons_mk (shut_bool hb _) trodAll_mk0
 have hargs:∀sp:Nat->Bool,(∀x∈p,sp x.block=true)->DataW.TrodAll enc P W' 0 sp true f.params.toList args.toList (s.fn H (ds++[])).args p:=by
  intro sp hsp;rw[hs];exact args_of_le hl e hp hA λx hx=>⟨hlt x (by simpa using hx),hsp x hx⟩
 have hvars:∀sp:Nat->Bool,DataW.TrodVars enc P W' sp s.vars (s.fn H (ds++[])).vars []:=by
  intro sp;rw[hs,hv]
  rfl
 have hold:∀x∈p,(λb=>decide (b<W.heap.size)) x.block=true:=λx hx=>by simpa using hlt x (by simpa using hx)
 refine ⟨ds,[],p++[],[],p,[],hW0,hres _ _ _,hargs _ hold,hvars _,World.keptBut_mono (λx hx=>⟨hx,.inr (by simpa using hx)⟩) (kept_of_le e _),λ_=>?_⟩;refine ⟨ok_one hr rfl (okWide_bool_mk hb _),_,_,([]++p)++[],⟨[]++p,[],trodAll_append (hargs _ (λ_ _=>rfl)) (hres _ _ _),hvars _,rfl,?_,?_⟩,?_⟩
 ·intro b off hx
  have hx2:MemPlace.cell b off∈p:=by simpa using hx
  rw[frozen_of_le e (hlt _ (by simpa using hx2))];exact hz b off (by simpa using hx2)
 ·intro ha;cases ha
 ·intro x hx _
  simpa using hx
theorem sl_bytes {t e:TypeId}{base:Nat}{v:Value}{d:DataW H}{p:List MemPlace}(ht:P.underlying t=some (.slice e))(he:P.underlying e=some (.int .u8))(hc:P.cellsOf e=1)
 (hval:Value.okWide P W .any base t v)(h:DataW.Trod enc P W 0 (λ_=>true) true t v d p):∃l:List UInt8,Sl byteE W (λk=>k<W.heap.size) v l:=by
 obtain ⟨a1,len1,cap1,rfl⟩:=okWide_slice ht hval;obtain ⟨fuel,hf⟩:=h;rcases open_ints ht he hc hf with ⟨hcs,_⟩|⟨a,len,cap,zs,hcs,_,hl,hm,hz,_,hcell,hw⟩
 ·simp [Value.cells] at hcs
  obtain ⟨rfl,rfl,rfl⟩:=hcs;exact ⟨[],Sl.nil _ _ _⟩
 ·simp [Value.cells] at hcs
  obtain ⟨rfl,rfl,rfl⟩:=hcs;simp only[Value.okWide,ht,Cell.okWide,Cell.ok] at hval;obtain ⟨_,_,_,hsp,row,cells,hsh,_⟩:=hval;obtain ⟨b,off,spot⟩:=a;simp only at hsp;subst hsp;simp only[if_true] at hz;have hblk:∃cur ty fr,W.heap[b]? =some (.cells cur ty fr):=by
   unfold World.shape? at hsh
   split at hsh
   ·rename_i c el fr hh;exact ⟨c,el,fr,hh⟩
   ·cases hsh
  obtain ⟨cur,ty,fr,hb⟩:=hblk;have hcur:∀i,i<zs.length->cur[off+i]? =some (.int .u8 (zs.getD i 0)):=by
   intro i hi;have:=hcell i hi;rw[Addr.add_none] at this;unfold World.cell? at this
   simpa[hb] using this
  refine ⟨(zs.take len1).map λz=>UInt8.ofNat z.toNat,?_⟩;have hlen:((zs.take len1).map λz=>UInt8.ofNat z.toNat).length=len1:=by simp;omega
  refine ⟨by omega,.inr ⟨b,off,cap1,cur,ty,fr,by rw[hlen],lt_of_some hb,hb,by omega,hm,?_,?_⟩⟩
  ·intro h0
   have h1:=hcur (cap1-1) (by omega);have h2:off+(cap1-1)<cur.size:=by
    rcases Nat.lt_or_ge (off+(cap1-1)) cur.size with h|h
    ·exact h
    ·rw [Array.getElem?_eq_none h] at h1;cases h1
   show off+cap1*1<=_
   omega
  ·intro i hi
   have hi2:i<len1:=by omega
   have h1:=hcur i (by omega);have h3:=hw (zs.getD i 0) (by rw[List.getD_eq_getElem?_getD,List.getElem?_eq_getElem (by omega)];exact List.getElem_mem _);have h4:(0:Int)<=zs.getD i 0∧zs.getD i 0<256:=by
    simp only[Lit.wf,Bool.and_eq_true,decide_eq_true_eq] at h3;have e1:IntKind.u8.min=0:=rfl;have e2:IntKind.u8.max=255:=rfl
    omega
   show (cur.toList.drop (off+i*1)).take 1=[Value.int .u8 _];have hlt:off+i<cur.toList.length:=by
    rcases Nat.lt_or_ge (off+i) cur.size with h|h
    ·simpa using h
    ·rw [Array.getElem?_eq_none h] at h1;cases h1
   rw[Nat.mul_one,List.drop_eq_getElem_cons hlt,List.take_succ_cons,List.take_zero];have h5:cur.toList[off+i]=.int .u8 (zs.getD i 0):=by
    have:cur.toList[off+i]? =some (.int .u8 (zs.getD i 0)):=by simpa using h1
    rw[List.getElem?_eq_getElem hlt] at this;exact Option.some.inj this
   rw[h5]
   congr 2
   have h6:zs.getD i 0=zs[i]'(by omega):=by simp[List.getD_eq_getElem?_getD,show i<zs.length from by omega]
   simp only[List.getElem_map,List.getElem_take];rw[<-h6]
   generalize zs.getD i 0=z at h4 ⊢
   obtain ⟨n,rfl⟩:=Int.eq_ofNat_of_zero_le h4.1;have h7:n<256:=by omega
   simp
   omega
end
theorem calls_of {P:Program}{k:FuncId}{args:Array Value}{W:World}{Q:Value->World->Prop}(h:Ret P k args W λv w'=>v=.bool true∧Le W w')(hq:∀w',Le W w'->Q (.bool true) w'):
 Calls P k args W λe W'=>∃v,e=.returned v∧Q v W':=by
 refine Calls.mono h λe W' hh=>?_
 cases e with
 |returned v=>obtain ⟨rfl,e⟩:=hh;exact ⟨_,rfl,hq _ e⟩
 |_=>exact hh.elim
end Go.Pn
end
section
namespace Go.Pn.Cn
open Go Go.Pn
theorem num_ne (n:Nat):num n≠[]:=by
 by_cases h:n<128
 ·rw [num_lt h];simp
 ·rw [num_ge h];simp
end Go.Pn.Cn
end
section
namespace Go.Pn.Cl
open Go Go.Pn Go.Lib
theorem op_cases {o:Int}(h:isOp o=true):o=1∨o=2∨o=3∨o=4∨o=5∨o=6∨o=7∨o=8∨o=9∨o=10∨o=11:=by
 have:=of_decide_eq_true h;omega
section
variable {s rest:Str}{o:Int}{ps qs:Str}{c:Call}
end
end Go.Pn.Cl
end
section
namespace Go.Pn
section
variable {P:Program}{n:Nat}{l:List Oper}{N:Val->World->Prop}{X:Nat->Val->World->Prop}{R:Val->World->Prop}{Z:List PanicEntry->World->Prop}{f:Val}{w wB:World}{M:Nat->Prop}
 {pos:String}{after:Array Edge}{ty:TypeId}{x:Operand}{d:Nat}
theorem DM.stepG {listed:Array Bool}{fuel i:Nat}{dst:Option Nat}{op:Op}{ty:TypeId}{j dj:Nat}{b:Bool}
 (hi:l[i]? =some {dst:=dst,op:=op,type:=ty,pos:=pos,after:=after,guard:=some (j,b)})(hj:(l[j]?).bind (·.dst)=some dj)(hv:ev n f (.tmp dj)=.bool b)
 (hO:O P n [{dst:=dst,op:=op,type:=ty,pos:=pos,after:=after,guard:=.none}] [{dst:=dst,op:=op,type:=ty,pos:=pos,after:=after,guard:=.none}] (λf' w'=>Ext M wB w'∧DM P n l (listed.setIfInBounds i true) N Z M wB fuel f' w') Z f w):DMStep P n l listed N Z M wB fuel f w i:=by
 have hy0:yielded l.toArray (Fr n f).tmps j=some b:=by
  have hd:=getD_Fr n f dj;rw[hv] at hd;unfold yielded;have h1:(l.toArray[j]?).bind (·.dst)=some dj:=by simpa using hj
  rw[h1];simp only[Option.bind_some];rw[Array.getD_eq_getD_getElem?] at hd;cases hx:(Fr n f).tmps[dj]? with
  |none=>rw[hx] at hd;simp[undef] at hd
  |some v=>rw[hx] at hd;simp at hd;subst hd;rfl
 unfold DMStep wpOp;have hi2:l.toArray[i]? =some {dst:=dst,op:=op,type:=ty,pos:=pos,after:=after,guard:=some (j,b)}:=by simpa using hi
 rw[hi2];unfold O at hO;simp only[wpList,Region.wanted,if_true,hy0,beq_self_eq_true] at hO ⊢;have key:∀a' w',Q0 n (λf' w'=>Ext M wB w'∧DM P n l (listed.setIfInBounds i true) N Z M wB fuel f' w') Z .normal a' w'->Ext M wB w'∧wpAnyH P .any l.toArray (Q0 n N Z) (λw'=>Ext M wB w') fuel (listed.setIfInBounds i true) a' w':=by
  rintro a' w' ⟨f',rfl,h1,h2⟩;exact ⟨h1,h2⟩
 rcases hO with h|⟨_,a0,w0,h0⟩
 ·left
  unfold Oper.wp at h ⊢;have hex:execOp (Fr n f).eval {dst:=dst,op:=op,type:=ty,pos:=pos,after:=after,guard:=some (j,b)}=execOp (Fr n f).eval {dst:=dst,op:=op,type:=ty,pos:=pos,after:=after,guard:=.none}:=rfl;rw[hex]
  generalize (execOp (Fr n f).eval {dst:=dst,op:=op,type:=ty,pos:=pos,after:=after,guard:=.none}).run P w=r at h ⊢
  cases r with
  |ok nx w'=>
   cases nx with
   |value v=>exact key _ _ h
   |skip=>exact key _ _ h
   |defer d=>exact key _ _ h
   |enter k args=>
    refine Calls.mono h ?_;intro e w'' he;cases e with
    |returned v=>exact key _ _ he
    |panicked ch=>exact he
    |outgrown=>obtain ⟨a0,w0,h0⟩:=he;exact h0.elim
   |row r args=>exact Rows.mono h λv w'' hv=>key _ _ hv
   |_=>exact h.elim
  |halt hh w'=>cases hh<;>first|exact h|exact h.elim
 ·exact h0.elim
end
end Go.Pn
end
section
namespace Go.Pn
open Go.RowKit
section
variable {te:TypeId}{w w':World}{F F' M:Nat->Prop}{v:Value}{n:Nat}
theorem BytW.pos (h:BytW te w F v n)(hn:0<n):∃(b cap:Nat) (bs:List UInt8),v=.slice (some ⟨b,0,none⟩) n cap∧F b∧Own w b te (bs.flatMap byteF.e)∧n<=bs.length∧bs.length=cap∧cap<=maxLen:=by
 rcases h with ⟨_,h⟩|h
 ·omega
 ·exact h
theorem BytW.sl (h:BytW te w F v n):∃xs:List UInt8,Sl byteE w F v xs∧xs.length=n:=by
 rcases h with ⟨rfl,rfl⟩|⟨b,cap,bs,rfl,h2,h3,h4,h5,h6⟩
 ·exact ⟨[],Sl.nil _ _ _,rfl⟩
 ·refine ⟨bs.take n,?_,by simp;omega⟩
  have hl:(bs.take n).length=n:=by simp;omega
  have h9:=Sl.of_own (G:=byteF) (xs:=bs.take n) (cap:=cap) h3 (by
   rw[hl];have e1:(bs.flatMap byteF.e)=(bs.take n).flatMap byteF.e++(bs.drop n).flatMap byteF.e:=by rw[<-List.flatMap_append,List.take_append_drop]
   rw[e1];have e2:((bs.take n).flatMap byteF.e).length=n*byteF.sz:=by rw[byteF.length,hl]
   rw[<-e2,List.take_left]) (by rw[hl];omega) h6 (by rw[byteF.length,<-h5];exact Nat.le_refl _)
  rw[hl] at h9;exact h9.weak λj hj=>by rw[show j=b from hj];exact h2
theorem byte_cellW {bs:List UInt8}{i:Nat}(h:i<bs.length):(bs.flatMap byteF.e)[0+((i:Nat):Int).toNat*1]? =some (.int .u8 ((bs[i]).toBitVec.toNat:Int)):=by
 rw[Int.toNat_natCast,Nat.zero_add,Nat.mul_one,byteF_map,List.getElem?_map,List.getElem?_eq_getElem h]
 rfl
theorem BytW.set {bs:List UInt8}{b cap i:Nat}{z:BitVec 8}(h:Own w b te ((bs.flatMap byteF.e).set i (.int .u8 (z.toNat:Int))))(hF:F b)(hn:n<=bs.length)(hc:bs.length=cap)(hm:cap<=maxLen):BytW te w F (.slice (some ⟨b,0,none⟩) n cap) n:=by
 have e:(bs.flatMap byteF.e).set i (.int .u8 (z.toNat:Int))=(bs.set i ⟨z⟩).flatMap byteF.e:=by
  rw[byteF_map,byteF_map,List.map_set]
  rfl
 rw[e] at h;exact .inr ⟨b,cap,_,rfl,hF,h,by simpa using hn,by simpa using hc,hm⟩
end
end Go.Pn
end
