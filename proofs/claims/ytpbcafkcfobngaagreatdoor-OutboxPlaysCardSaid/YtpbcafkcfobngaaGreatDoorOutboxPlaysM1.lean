/-
 Plain operations on numbers, Bools and strings, a rule each. No condition beyond what each rule asks.
-/
import Derived.WalkKit
import Derived.WalkSpells
import Derived.WalkLawsBesides
import Derived.Laws.AppendOwnNone
import Derived.Great.BuildSlice
import Derived.OrdersHeld
import Derived.Laws.Externs
import Derived.Laws.Cells
import Derived.Laws.Tables
import Derived.Laws.StructEq
import Derived.Deep.Draws
import Derived.Sort.Grow
import Derived.Lib.IndexMore
import Derived.Lib.TrimByte
import Derived.Shelf.SlSortCmp.WholeK
import Derived.Maps.RangeRun
import Derived.MapKept
import Derived.ProofKit
import Derived.OpenShut
import Derived.WideKeyArgs
import Derived.LaidLaws
import Derived.Deep.DeepHandedRow
import Derived.Deep.DeepWitnessRowRef
import Derived.Lib.LaidTab
import Derived.Deep.Slices
import Derived.Shelf.SlSortCmp.Whole1
import Derived.Lib.AppendZeros
import Derived.Lib.AppendStr
import Derived.Defers
import Derived.Recover
import Derived.RangeFuncLeaves
import Derived.RangeFuncSeq
import Derived.Lib.Bytealg
import Derived.Scope
import Derived.Test.YtpbcafkcfobngaaGreatDoorOutboxM6
variable {P:Go.Program}{n:Nat}{ops rest:List Go.Oper}{N:Go.Pn.Val->Go.World->Prop}{Z:List Go.PanicEntry->Go.World->Prop}{f:Go.Pn.Val}{w:Go.World}
section
namespace Go.Pn
open Go.RowKit
section
variable
 {d:Nat}{x y:Operand}{t t' ty:TypeId}{pos:String}{after:Array Edge}
section
variable {a b:Int}
theorem O.addW (hx:ev n f x=i64 a)(hy:ev n f y=i64 b)(h:O P n ops rest N Z (upd f d (i64 (IntKind.i64.wrap (a+b)))) w):
 O P n ops (ZO d (.binOp .add t x y t') ty pos after::rest) N Z f w:=
 O.val rfl rfl (by simp[execOp,hx,hy,eqGuard,binOp,Op.intArith]) h
end
section
variable {k:IntKind}{m:Nat}{a b:BitVec m}
end
section
variable {k k':IntKind}{m m':Nat}
end
section
variable {a b:List UInt8}
theorem O.addS (hx:ev n f x=str a)(hy:ev n f y=str b)(hb:a.length+b.length<=9223372036854775807)(h:O P n ops rest N Z (upd f d (str (a++b))) w):
 O P n ops (ZO d (.binOp .add t x y t') ty pos after::rest) N Z f w:=
 O.val rfl rfl (by
  have h1:¬(IntKind.i64.max<((ByteArray.size ⟨a.toArray⟩+ByteArray.size ⟨b.toArray⟩:Nat):Int)):=by
   have e:IntKind.i64.max=9223372036854775807:=by decide
   have ha:ByteArray.size ⟨a.toArray⟩=a.length:=by simp[ByteArray.size]
   have hb':ByteArray.size ⟨b.toArray⟩=b.length:=by simp[ByteArray.size]
   rw[e,ha,hb'];omega
  have e2:(ByteArray.mk a.toArray++ByteArray.mk b.toArray)=ByteArray.mk (a++b).toArray:=by
   apply ByteArray.ext
   simp
  simp only[execOp,hx,hy,str,eqGuard,binOp,Op.stringOp,gt_iff_lt,h1,if_false,e2]
  simp) h
end
end
end Go.Pn
end
section
namespace Go.Pn
open Go.RowKit
section
variable
 {d:Nat}{x:Operand}{t t' e tr:TypeId}{pos:String}{after:Array Edge}{α:Type}{E:Enc α}{F:Nat->Prop}
end
section
variable
 {d:Nat}{t e tr:TypeId}{pos:String}{after:Array Edge}
end
section
variable
 {d:Nat}{x:Operand}{t tr:TypeId}{pos:String}{after:Array Edge}
end
theorem OwnF.set {α:Type}{G:Flat α}{ty:TypeId}{B:Nat}{w:World}{g cap i:Nat}{xs:List α}{x:α}{u:Value}(hG:∀x,(G.e x).length=1)(hu:G.e x=[u])(h:OwnF G ty B w (.slice (some ⟨g,0,none⟩) xs.length cap) xs)(hi:i<xs.length):
 OwnF G ty B (w.setCell ⟨g,i,none⟩ u) (.slice (some ⟨g,0,none⟩) xs.length cap) (xs.set i x):=by
 obtain ⟨h0,hm⟩:=h;refine ⟨⟨by rw[G.length],?_⟩,by rw[List.length_set];exact hm⟩;rcases h0.2 with ⟨h1,_⟩|⟨g',cap',cur,h1,hb,hg,hn,hc,hsz,ht⟩
 ·cases h1
 ·have e1:g=g':=by cases h1;rfl
  have e2:cap=cap':=by cases h1;rfl
  subst e1;subst e2;have hset:∀(ys:List α) (j:Nat),j<ys.length->(ys.set j x).flatMap G.e=(ys.flatMap G.e).set j u:=by
   intro ys
   induction ys with
   |nil=>intro j hj;simp at hj
   |cons y ys ih=>
    intro j hj;obtain ⟨c,hc⟩:∃c,G.e y=[c]:=by
     have:=hG y
     match hq:G.e y,this with
     |[c],_=>exact ⟨c,rfl⟩
    cases j with
    |zero=>simp[hu,hc]
    |succ j=>simp[hc,ih j (by simpa using hj)]
  refine .inr ⟨g,cap,(cur.toList.set i u).toArray,by rw[List.length_set],hb,?_,by rw[List.length_set];exact hn,hc,by simpa using hsz,?_⟩
  ·have h5:=heap_set w g i u (cs:=cur.toList) (ty:=ty) (fr:=(0,0)) (by simpa using hg)
   exact h5
  ·rw [List.length_set,hset xs i hi,<-ht]
   simp only[List.take_set]
section
variable
 {x y:Operand}{t tr:TypeId}{pos:String}{after:Array Edge}
theorem O.storeF {α:Type}{G:Flat α}{ty:TypeId}{B g cap i:Nat}{xs:List α}(z:α){u:Value}(hsz:∀w,(sizeOf t).run P w=.ok 1 w)(hs:G.sz=1)(hG:∀x,(G.e x).length=1)(hu:G.e z=[u])(hx:ev n f x=.pointer (some ⟨g,i,none⟩))(hy:ev n f y=u)
 (ho:OwnF G ty B w (.slice (some ⟨g,0,none⟩) xs.length cap) xs)(hi:i<xs.length)
 (h:∀w',OwnF G ty B w' (.slice (some ⟨g,0,none⟩) xs.length cap) (xs.set i z)->Ext (λk=>k=g) w w'->w'.heap.size=w.heap.size->O P n ops rest N Z f w'):
 O P n ops ({dst:=.none,op:=.store t x y,type:=tr,pos:=pos,after:=after,guard:=.none}::rest) N Z f w:=by
 have h1:u.oneCell'=true:=G.one z u (by rw[hu];simp);obtain ⟨g',cap',cs,hv,hown,hcs,hn,_,hc3,_⟩:=ho.block (by omega);have e1:g=g':=by cases hv;rfl
 have e2:cap=cap':=by cases hv;rfl
 subst e1;subst e2;refine O.act rfl rfl ?_ (h (w.setCell ⟨g,i,none⟩ u) (ho.set hG hu hi) (Ext.set w ⟨g,i,none⟩ u) (by simp));have h3:execOp (ev n f) {dst:=.none,op:=.store t x y,type:=tr,pos:=pos,after:=after,guard:=.none}=(do Instr.storeAt t (ev n f x) (ev n f y);pure .skip):=rfl;rw[h3,Sem.run_bind,hx,hy];have hcells:u.cells=#[u]:=by cases u<;>first|rfl|simp[Value.oneCell'] at h1
 have hlt:i<cs.length:=by rw[hs,Nat.mul_one] at hc3;omega
 have hc:=hown.cell (i:=i) (v:=cs[i]) (by simp);have hf:=hown.free hlt;have h4:(Instr.storeAt t (.pointer (some ⟨g,i,none⟩)) u).run P w=.ok () (w.setCell ⟨g,i,none⟩ u):=by
  simp[Instr.storeAt,Instr.sureAddr,storeVar,hsz,hcells,storeCells,Addr.add,run_store P w ⟨g,i,none⟩ u .plain h1,hc,hf]
 rw[h4]
 rfl
end
section
variable
 {d:Nat}{x y:Operand}{t t' tr:TypeId}{pos:String}{after:Array Edge}{α:Type}{G:Flat α}{F:Nat->Prop}
end
section
variable
 {x y:Operand}{t ty tr:TypeId}{pos:String}{after:Array Edge}
end
end Go.Pn
end
section
namespace Go.Pn
open Go.RowKit
section
variable {α:Type}{G:Flat α}{ty:TypeId}{B:Nat}{w:World}{g cap:Nat}{xs:List α}
end
section
variable
 {d:Nat}{x y:Operand}{t tr ty:TypeId}{pos:String}{after:Array Edge}{α:Type}
theorem O.loadC {G:Flat α}{B g cap i off k:Nat}{xs:List α}{u:Value}(hk:k=i*G.sz+off)(hag:∀w,(isAgg t).run P w=.ok false w)(hx:ev n f x=.pointer (some ⟨g,k,none⟩))
 (ho:OwnF G ty B w (.slice (some ⟨g,0,none⟩) xs.length cap) xs)(hi:i<xs.length)(hu:(G.e xs[i])[off]? =some u)
 (h:O P n ops rest N Z (upd f d u) w):O P n ops (ZO d (.load t x) tr pos after::rest) N Z f w:=by
 subst hk;have hof:off<G.sz:=by
  have:=(List.getElem?_eq_some_iff.1 hu).1;rw[G.len] at this;exact this
 obtain ⟨h0,hm⟩:=ho;rcases h0.2 with ⟨h1,_⟩|⟨g',cap',cur,h1,hb,hg,hn,hc,hsz,ht⟩
 ·cases h1
 ·have e1:g=g':=by cases h1;rfl
  subst e1;have hseg:=G.seg xs hi;have hcell:w.cell? ⟨g,i*G.sz+off,none⟩=some u:=by
   have q:((cur.toList.take (xs.length*G.sz)).drop (i*G.sz))[off]? =some u:=by
    rw[<-hseg,List.getElem?_take,if_pos hof] at hu;rw[ht];exact hu
   rw[List.getElem?_drop,List.getElem?_take] at q
   split at q
   ·simp only[World.cell?,hg,Option.isSome_none,Bool.false_eq_true,if_false]
    simpa using q
   ·cases q
  refine O.val rfl rfl ?_ h;have h3:execOp (ev n f) (ZO d (.load t x) tr pos after)=(do pure (.value (<-Instr.loadAt t (ev n f x)))):=rfl;rw[h3,Sem.run_bind,hx];have h4:(Instr.loadAt t (.pointer (some ⟨g,i*G.sz+off,none⟩))).run P w=.ok u w:=by
   simp[Instr.loadAt,Instr.sureAddr,loadVar,hag,hcell]
  rw[h4]
  rfl
end
end Go.Pn
end
section
namespace Go.Pn
open Go.RowKit
section
variable {α:Type}{G:Flat α}{w w':World}{F:Nat->Prop}{v v' y:Value}{xs ys:List α}{B:Nat}{ty:TypeId}
end
section
variable
 {d:Nat}{x y:Operand}{t t' ty tr e:TypeId}{pos:String}{after:Array Edge}{α:Type}{G:Flat α}{F:Nat->Prop}
end
section
variable
 {d:Nat}{x:Operand}{t tr:TypeId}{pos:String}{after:Array Edge}
theorem O.loadMarks {F:Nat->Prop}{a:Addr}{z:ItemT}(hag:∀w,(isAgg t).run P w=.ok false w)(hx:ev n f x=.pointer (some (a.add 1)))(ha:At itemE w F a z)
 (h:∀v,Sl markF.enc w F v z.2->O P n ops rest N Z (upd f d v) w):O P n ops (ZO d (.load t x) tr pos after::rest) N Z f w:=
 O.loadAtC hag (by decide) hx ha λcs u hr hu=>by
  obtain ⟨v,rfl,hm⟩:=hr;cases hu;exact h _ hm
end
section
variable
 {d:Nat}{x y:Operand}{t t' tr:TypeId}{pos:String}{after:Array Edge}
end
section
variable
 {d:Nat}{x y:Operand}{t t' tr:TypeId}{pos:String}{after:Array Edge}
end
end Go.Pn
end
section
namespace Go.Pn.Cn
open Go Go.Pn
section
variable {α:Type}{p:α->Bool}{l:List α}
end
section
variable {α:Type}{r:α->α->Bool}
end
theorem smallI_yes {x:Item}(h:x.2.length<=20)(k:x.1.length<=100):smallI x=true:=by unfold smallI;rw[decide_eq_true h,decide_eq_true k];rfl
theorem smallI_no {x:Item}(h:20<x.2.length∨100<x.1.length):smallI x=false:=by
 unfold smallI;rcases h with h|h
 ·rw [dF (by omega)];rfl
 ·rw [dF (p:=x.1.length<=100) (by omega),Bool.and_false]
theorem small_of {a:Cart}(h:a.2.length<=20->∀i,∀hi:i<a.2.length,smallI a.2[i]=true):decide ((((a.1.1.length:Nat):Int)<=40∧((a.1.2.length:Nat):Int)<=40)∧((a.2.length:Nat):Int)<=20)=small a:=by
 unfold small
 by_cases hs:(a.1.1.length<=40∧a.1.2.length<=40)∧a.2.length<=20
 ·rw [decide_eq_true hs,all_yes (h hs.2),dT (by omega)]
  rfl
 ·rw [decide_eq_false hs,dF (by omega)]
  rfl
end Go.Pn.Cn
end
section
namespace Go.Pn
open Go.RowKit
section
variable {α:Type}{G:Flat α}{ty:TypeId}{B:Nat}{w w':World}{F F' M:Nat->Prop}{v:Value}{xs:List α}
theorem Fre.len {q:Raw}(h:Fre G ty w F (Go.Pn.slv q) xs):q.2.1=xs.length:=by
 rcases h.1.1.2 with ⟨hv,h0⟩|⟨g,cap,cur,hv,_⟩
 ·rw [h0];simp only[Go.Pn.slv,Value.slice.injEq] at hv;exact hv.2.1
 ·simp only[Go.Pn.slv,Value.slice.injEq] at hv;exact hv.2.1
end
section
variable {tm ti:TypeId}{w w':World}{F F' M:Nat->Prop}{raw:List (List UInt8×Raw)}{xs:List ItemT}{v:Value}
end
theorem Fre.put {α:Type}{G:Flat α}{ty:TypeId}{w:World}{F:Nat->Prop}{v:Value}{xs:List α}(h:Fre G ty w F v xs){g i off:Nat}{cur:Array Value}{u:Value}(hg:w.heap[g]? =some (.cells cur ty (0,0)))(ho:off<G.sz)(hset:∀x,∃z,G.e z=(G.e x).set off u):
 ∃xs':List α,Fre G ty (w.setCell ⟨g,i*G.sz+off,none⟩ u) F v xs'∧xs'.length=xs.length∧(∀{β:Type} (p:α->β),(∀x z,G.e z=(G.e x).set off u->p z=p x)->xs'.map p=xs.map p)∧∀Q:α->Prop,(∀x∈xs,Q x)->(∀x z,G.e z=(G.e x).set off u->Q z)->∀z∈xs',Q z:=by
 have same:∀hh:Fre G ty (w.setCell ⟨g,i*G.sz+off,none⟩ u) F v xs,_:=λhh=>(⟨xs,hh,rfl,λ_ _=>rfl,λ_ h _=>h⟩:∃xs':List α,Fre G ty (w.setCell ⟨g,i*G.sz+off,none⟩ u) F v xs'∧xs'.length=xs.length∧(∀{β:Type} (p:α->β),(∀x z,G.e z=(G.e x).set off u->p z=p x)->xs'.map p=xs.map p)∧∀Q:α->Prop,(∀x∈xs,Q x)->(∀x z,G.e z=(G.e x).set off u->Q z)->∀z∈xs',Q z)
 rcases h.1.1.2 with ⟨rfl,h0⟩|⟨g',cap,cur',rfl,hb,hg',hn,hc,hsz,ht⟩
 ·obtain rfl:=List.eq_nil_of_length_eq_zero h0
  exact same (Fre.nil _ _ _ _)
 by_cases hgg:g'=g
 ·subst hgg
  by_cases hi:i<xs.length
  ·obtain ⟨z,hz⟩:=hset xs[i]
   refine ⟨xs.set i z,⟨h.1.put1 hi ho hz,h.2⟩,by simp,λp hp=>?_,λQ h1 h2 y hy=>?_⟩
   rotate_left
   ·rcases List.mem_or_eq_of_mem_set hy with q|rfl
    ·exact h1 _ q
    ·exact h2 _ _ hz
   rw[List.map_set,hp _ _ hz]
   apply List.ext_getElem (by simp)
   intro j h1 h2;rw[List.getElem_set]
   split
   ·rename_i hij
    subst hij
    simp
   ·rfl
  ·refine same ⟨⟨⟨h.1.1.1,.inr ⟨g',cap,(cur'.toList.set (i*G.sz+off) u).toArray,rfl,hb,heap_set w g' (i*G.sz+off) u (cs:=cur'.toList) (ty:=ty) (fr:=(0,0)) (by simpa using hg'),hn,hc,by simpa using hsz,?_⟩⟩,h.1.2⟩,h.2⟩
   have h1:xs.length*G.sz<=i*G.sz:=Nat.mul_le_mul_right _ (by omega);rw[List.take_set_of_le (by omega)];exact ht
 ·exact same (h.kM (Ext.set w ⟨g,i*G.sz+off,none⟩ u) (M:=λk=>k=g) (w':=w.setCell ⟨g,i*G.sz+off,none⟩ u)|>λ_=>⟨⟨⟨h.1.1.1,.inr ⟨g',cap,cur',rfl,hb,((Ext.set w ⟨g,i*G.sz+off,none⟩ u).block g' (lt_of_some hg') hgg).trans hg',hn,hc,hsz,ht⟩⟩,h.1.2⟩,h.2⟩)
theorem Fre.off {α:Type}{G:Flat α}{ty ty':TypeId}{w:World}{F:Nat->Prop}{v:Value}{xs:List α}(h:Fre G ty w F v xs){g k:Nat}{cur:Array Value}{u:Value}(hg:w.heap[g]? =some (.cells cur ty' (0,0)))(hne:ty≠ty'):Fre G ty (w.setCell ⟨g,k,none⟩ u) F v xs:=by
 rcases h.1.1.2 with ⟨rfl,h0⟩|⟨g',cap,cur',rfl,hb,hg',hn,hc,hsz,ht⟩
 ·obtain rfl:=List.eq_nil_of_length_eq_zero h0
  exact Fre.nil _ _ _ _
 have hgg:g'≠g:=by
  rintro rfl;rw[hg] at hg';cases hg';exact hne rfl
 exact ⟨⟨⟨h.1.1.1,.inr ⟨g',cap,cur',rfl,hb,((Ext.set w ⟨g,k,none⟩ u).block g' (lt_of_some hg') hgg).trans hg',hn,hc,hsz,ht⟩⟩,h.1.2⟩,h.2⟩
section
variable {td ti tm:TypeId}{w w':World}{F M:Nat->Prop}{a1 a2 a3:Raw}{ps:List Raw}{K:Nat}
theorem Stn.L (h:Stn td ti tm w F a1 a2 a3 ps K)(e:Le w w'):Stn td ti tm w' F a1 a2 a3 ps K:=h.kM e λ_ _=>not_false
theorem Stn.dots (h:Stn td ti tm w F a1 a2 a3 ps K){q:Raw}(hq:q=a1∨q=a2):∃xs,Fre Dt.dotF td w F (slv q) xs:=by
 rcases hq with rfl|rfl
 ·exact h.d1
 ·exact h.d2
theorem Stn.setD (h:Stn td ti tm w F a1 a2 a3 ps K)(n1:ti≠td)(n2:tm≠td){g i:Nat}{z:Int}{cur:Array Value}(hg:w.heap[g]? =some (.cells cur td (0,0))):Stn td ti tm (w.setCell ⟨g,i*Dt.dotF.sz+1,none⟩ (.int .i64 z)) F a1 a2 a3 ps K:=by
 obtain ⟨⟨x1,h1⟩,⟨x2,h2⟩,⟨x3,h3,h4,h5⟩,h6⟩:=h;have hs:∀x:Dt.Dot,∃y:Dt.Dot,Dt.dotF.e y=(Dt.dotF.e x).set 1 (.int .i64 z):=λx=>⟨(x.1,z),rfl⟩
 obtain ⟨y1,k1,_⟩:=h1.put (i:=i) hg (by decide) hs;obtain ⟨y2,k2,_⟩:=h2.put (i:=i) hg (by decide) hs;refine ⟨⟨y1,k1⟩,⟨y2,k2⟩,⟨x3,h3.off hg n1,h4,h5⟩,λp hp=>?_⟩;obtain ⟨ms,h7⟩:=h6 p hp;exact ⟨ms,h7.off hg n2⟩
theorem Stn.setM (h:Stn td ti tm w F a1 a2 a3 ps K)(n1:td≠tm)(n2:ti≠tm){g i:Nat}{z:Int}{cur:Array Value}(hg:w.heap[g]? =some (.cells cur tm (0,0))):Stn td ti tm (w.setCell ⟨g,i*markF.sz+2,none⟩ (.int .i64 z)) F a1 a2 a3 ps K:=by
 obtain ⟨⟨x1,h1⟩,⟨x2,h2⟩,⟨x3,h3,h4,h5⟩,h6⟩:=h;refine ⟨⟨x1,h1.off hg n1⟩,⟨x2,h2.off hg n1⟩,⟨x3,h3.off hg n2,h4,h5⟩,λp hp=>?_⟩;obtain ⟨ms,h7⟩:=h6 p hp;obtain ⟨ms',h8,_⟩:=h7.put (i:=i) (off:=2) (u:=.int .i64 z) hg (by decide) λx=>⟨(x.1,z,x.2.2),rfl⟩
 exact ⟨ms',h8⟩
theorem str_same {a b:List UInt8}(h:str a=str b):a=b:=by
 unfold str at h
 simpa using h
theorem slv_inj {p q:Raw}(h:slv p=slv q):p=q:=by
 obtain ⟨a,b,c⟩:=p;obtain ⟨a',b',c'⟩:=q;simp only[slv,Value.slice.injEq] at h;obtain ⟨rfl,rfl,rfl⟩:=h
 rfl
theorem Stn.setN (h:Stn td ti tm w F a1 a2 a3 ps K)(n1:td≠ti)(n2:tm≠ti){g i:Nat}{s:List UInt8}(hs:s.length<=K+1){cur:Array Value}(hg:w.heap[g]? =some (.cells cur ti (0,0))):Stn td ti tm (w.setCell ⟨g,i*itemF.sz+0,none⟩ (str s)) F a1 a2 a3 ps (K+1):=by
 obtain ⟨⟨x1,h1⟩,⟨x2,h2⟩,⟨x3,h3,h4,h5⟩,h6⟩:=h;obtain ⟨y3,k3,_,k4,k5⟩:=h3.put (i:=i) (off:=0) (u:=str s) hg (by decide) λx=>⟨(s,x.2),rfl⟩
 refine ⟨⟨x1,h1.off hg n1⟩,⟨x2,h2.off hg n1⟩,⟨y3,k3,?_,k5 (λr=>r.1.length<=K+1) (λr hr=>Nat.le_succ_of_le (h5 r hr)) ?_⟩,λp hp=>?_⟩
 ·rw [<-h4]
  refine k4 (·.2) λx z hz=>?_
  have e1:[str z.1,slv z.2]=[str s,slv x.2]:=hz;simp only[List.cons.injEq,and_true] at e1;exact slv_inj e1.2
 ·intro x z hz
  have e1:[str z.1,slv z.2]=[str s,slv x.2]:=hz;simp only[List.cons.injEq,and_true] at e1;have e2:z.1=s:=str_same e1.1;show z.1.length<=K+1;rw[e2];exact hs
 ·obtain ⟨ms,h7⟩:=h6 p hp
  exact ⟨ms,h7.off hg n2⟩
theorem Stn.of {v1 v2 v3:Value}{xs ys:List Dt.Dot}{its:List ItemT}(h1:Fre Dt.dotF td w F v1 xs)(h2:Fre Dt.dotF td w F v2 ys)(h3:SlI ti tm w F v3 its)(hn:∀x∈its,x.1.length<=K):∃a1 a2 a3 ps,v1=slv a1∧v2=slv a2∧v3=slv a3∧Stn td ti tm w F a1 a2 a3 ps K:=by
 obtain ⟨a1,rfl⟩:=h1.slv;obtain ⟨a2,rfl⟩:=h2.slv;obtain ⟨raw,h4,h5⟩:=h3;obtain ⟨a3,rfl⟩:=h4.slv;refine ⟨a1,a2,a3,raw.map (·.2),rfl,rfl,rfl,⟨_,h1⟩,⟨_,h2⟩,⟨raw,h4,rfl,λr hr=>?_⟩,λp hp=>?_⟩
 ·obtain ⟨i,hi,rfl⟩:=List.getElem_of_mem hr
  rw[(h5.2 i hi (by rw[<-h5.1];exact hi)).1];exact hn _ (List.getElem_mem _)
 ·obtain ⟨r,hr,rfl⟩:=List.mem_map.1 hp
  obtain ⟨i,hi,rfl⟩:=List.getElem_of_mem hr;exact ⟨_,(h5.2 i hi (by rw[<-h5.1];exact hi)).2⟩
end
section
variable
 {x y:Operand}{t tr ty:TypeId}{pos:String}{after:Array Edge}{α:Type}
theorem O.storeS {G:Flat α}{B g cap i off k:Nat}{xs:List α}{u:Value}(hk:k=i*G.sz+off)(hsz:∀w,(sizeOf t).run P w=.ok 1 w)(hx:ev n f x=.pointer (some ⟨g,k,none⟩))(hy:ev n f y=u)(h1:u.oneCell'=true)
 (ho:OwnF G ty B w (.slice (some ⟨g,0,none⟩) xs.length cap) xs)(hi:i<xs.length)(hof:off<G.sz)
 (h:∀w' cur,w.heap[g]? =some (.cells cur ty (0,0))->w'=w.setCell ⟨g,i*G.sz+off,none⟩ u->Ext (λk=>k=g) w w'->w'.heap.size=w.heap.size->O P n ops rest N Z f w'):
 O P n ops ({dst:=.none,op:=.store t x y,type:=tr,pos:=pos,after:=after,guard:=.none}::rest) N Z f w:=by
 subst hk;obtain ⟨g',cap',cs,hv,hown,hcs,hn,_,hc3,_⟩:=ho.block (by omega);have e1:g=g':=by cases hv;rfl
 have e2:cap=cap':=by cases hv;rfl
 subst e1;subst e2;obtain ⟨cur,hcur⟩:∃cur,w.heap[g]? =some (.cells cur ty (0,0)):=by
  rcases ho.1.2 with ⟨h1,_⟩|⟨g',cap',cur,h1,hb,hg,_⟩
  ·cases h1
  ·cases h1;exact ⟨cur,hg⟩
 refine O.act rfl rfl ?_ (h (w.setCell ⟨g,i*G.sz+off,none⟩ u) cur hcur rfl (Ext.set w ⟨g,i*G.sz+off,none⟩ u) (by simp));have h3:execOp (ev n f) {dst:=.none,op:=.store t x y,type:=tr,pos:=pos,after:=after,guard:=.none}=(do Instr.storeAt t (ev n f x) (ev n f y);pure .skip):=rfl;rw[h3,Sem.run_bind,hx,hy];have hcells:u.cells=#[u]:=by cases u<;>first|rfl|simp[Value.oneCell'] at h1
 have hlt:i*G.sz+off<cs.length:=by
  have q1:(i+1)*G.sz<=cap*G.sz:=Nat.mul_le_mul_right _ (by omega);rw[Nat.add_mul] at q1
  omega
 have hc:=hown.cell (i:=i*G.sz+off) (v:=cs[i*G.sz+off]) (by simp);have hf:=hown.free hlt;have h4:(Instr.storeAt t (.pointer (some ⟨g,i*G.sz+off,none⟩)) u).run P w=.ok () (w.setCell ⟨g,i*G.sz+off,none⟩ u):=by
  simp[Instr.storeAt,Instr.sureAddr,storeVar,hsz,hcells,storeCells,Addr.add,run_store P w ⟨g,i*G.sz+off,none⟩ u .plain h1,hc,hf]
 rw[h4]
 rfl
end
end Go.Pn
end
section
namespace Go.Pn
open Go.ChangeShapes Go.WideShapes Go.ChangeAt Go.RowKit
section
variable {H:Type}{enc:TypeId×Value->H}{P:Program}{W W':World}
theorem kept_of_le (e:Le W W')(may:MemPlace->Prop):W.keptBut W' may:=by
 refine ⟨e.os,e.output,λi hi=>?_⟩;rw[e.block i hi not_false];cases h:W.heap[i]? with
 |none=>rfl
 |some o=>cases o<;>first|exact ⟨rfl,rfl,rfl,λ_ _=>rfl⟩|exact .inr ⟨rfl,rfl⟩|rfl
theorem frozen_of_le (e:Le W W'){a:Addr}(h:a.block<W.heap.size):W'.frozen? a=W.frozen? a:=by
 unfold World.frozen?;rw[e.block _ h not_false]
theorem same_of_le (e:Le W W'){p:MemPlace}(h:p.block<W.heap.size):W.sameAt W' p:=by
 cases p with
 |cell b off=>show W'.cell? _=W.cell? _;unfold World.cell?;rw[e.block b h not_false]
 |map b=>exact e.block b h not_false
theorem args_of_le (hl:laidOutB P=true)(e:Le W W'){sp:Nat->Bool}:∀{ts:List TypeId} {vs:List Value} {ds:List (DataW H)} {ps:List MemPlace},
 (ts.all λt=>P.readableRec t&&decide (t<P.types.size))=true->DataW.TrodAll enc P W 0 (λ_=>true) true ts vs ds ps->(∀p∈ps,p.block<W.heap.size∧sp p.block=true)->DataW.TrodAll enc P W' 0 sp true ts vs ds ps
 |[],[],[],_,_,h,_=>h
 |[],[],_::_,_,_,h,_=>h.elim
 |[],_::_,[],_,_,h,_=>h.elim
 |[],_::_,_::_,_,_,h,_=>h.elim
 |_::_,[],[],_,_,h,_=>h.elim
 |_::_,[],_::_,_,_,h,_=>h.elim
 |_::_,_::_,[],_,_,h,_=>h.elim
 |_::_,_::_,_::_,_,ht,⟨p,q,h1,h2,e1⟩,hs=>by
  simp only[List.all_cons,Bool.and_eq_true,decide_eq_true_eq] at ht;subst e1;refine ⟨p,q,WideElems.Trod_stays hl ht.1.1 ht.1.2 h1 (λx hx=>same_of_le e (hs x (List.mem_append_left _ hx)).1) (λx hx=>(hs x (List.mem_append_left _ hx)).2),args_of_le hl e ?_ h2 (λx hx=>hs x (List.mem_append_right _ hx)),rfl⟩
  simpa using ht.2
theorem post_of_le {f:Func}{s:ChangeSpec}{fresh handsOn again:Bool}{args:Array Value}{ds gs:List (DataW H)}{before:List MemPlace}{tb:TypeId}
 (hl:laidOutB P=true)(hp:(f.params.toList.all λt=>P.readableRec t&&decide (t<P.types.size))=true)(hv:s.vars=[])(hr:f.resultTypes=#[tb])(hb:P.underlying tb=some .bool)
 (hW:DataW.Whole enc P f.params.toList s.vars false W args.toList ds gs before)(e:Le W W')
 (hs:s.fn H (ds++gs)={results:=[.lit (.bool true)],args:=ds}):s.post enc P f false fresh handsOn again W args (.bool true) W':=by
 have hlt:=hW.lt;have hW0:=hW;obtain ⟨p,q,hA,hV,rfl,hz,_⟩:=hW;rw[hv] at hV;obtain ⟨rfl,rfl⟩:=trodVars_none hV;have hres:∀(b:Nat) (sp:Nat->Bool) (hd:Bool),DataW.TrodAll enc P W' b sp hd f.resultTypes.toList ((Value.bool true).resultList f.resultTypes.size) (s.fn H (ds++[])).results []:=by
  intro b sp hd;rw[hs,hr];exact trodAll_cons_mk (shut_bool hb _) trodAll_mk0
 have hargs:∀sp:Nat->Bool,(∀x∈p,sp x.block=true)->DataW.TrodAll enc P W' 0 sp true f.params.toList args.toList (s.fn H (ds++[])).args p:=by
  intro sp hsp;rw[hs];exact args_of_le hl e hp hA λx hx=>⟨hlt x (by simpa using hx),hsp x hx⟩
 have hvars:∀sp:Nat->Bool,DataW.TrodVars enc P W' sp s.vars (s.fn H (ds++[])).vars []:=by
  intro sp;rw[hs,hv]
  rfl
 have hold:∀x∈p,(λb=>decide (b<W.heap.size)) x.block=true:=λx hx=>by simpa using hlt x (by simpa using hx)
 refine ⟨ds,[],p++[],[],p,[],hW0,hres _ _ _,hargs _ hold,hvars _,World.keptBut_mono (λx hx=>⟨hx,.inr (by simpa using hx)⟩) (kept_of_le e _),λ_=>?_⟩;refine ⟨ok_one hr rfl (okWide_bool_mk hb _),_,_,([]++p)++[],⟨[]++p,[],trodAll_append (hargs _ (λ_ _=>rfl)) (hres _ _ _),hvars _,rfl,?_,?_⟩,?_⟩
 ·intro b off hx
  have hx2:MemPlace.cell b off∈p:=by simpa using hx
  rw[frozen_of_le e (hlt _ (by simpa using hx2))];exact hz b off (by simpa using hx2)
 ·intro ha;cases ha
 ·intro x hx _
  simpa using hx
theorem i_of {t:TypeId}{base:Nat}{v:Value}{d:DataW H}{p:List MemPlace}(ht:P.underlying t=some (.int .i64))(hval:Value.okWide P W .any base t v)(h:DataW.Trod enc P W 0 (λ_=>true) true t v d p):
 ∃z:Int,v=.int .i64 z∧InI z:=by
 obtain ⟨z,rfl,_,_,hw⟩:=open_int ht hval h;simp only[Lit.wf,Bool.and_eq_true,decide_eq_true_eq] at hw;refine ⟨z,rfl,?_⟩;unfold InI;have e1:IntKind.i64.min= -9223372036854775808:=rfl;have e2:IntKind.i64.max=9223372036854775807:=rfl
 omega
end
theorem calls_of {P:Program}{k:FuncId}{args:Array Value}{W:World}{Q:Value->World->Prop}(h:Ret P k args W λv w'=>v=.bool true∧Le W w')(hq:∀w',Le W w'->Q (.bool true) w'):
 Calls P k args W λe W'=>∃v,e=.returned v∧Q v W':=by
 refine Calls.mono h λe W' hh=>?_
 cases e with
 |returned v=>obtain ⟨rfl,e⟩:=hh;exact ⟨_,rfl,hq _ e⟩
 |_=>exact hh.elim
end Go.Pn
end
section
namespace Go.Pn
open Go.RowKit
section
variable
 {d:Nat}{x y:Operand}{t t' tn ty tr e:TypeId}{pos:String}{after:Array Edge}{α:Type}{G:Flat α}{F:Nat->Prop}
end
open Go.Lib
section
variable
 {d:Nat}{x y:Operand}{t t' tn ty tr e:TypeId}{pos:String}{after:Array Edge}{α:Type}{F:Nat->Prop}
end
section
variable
 {d:Nat}{x y:Operand}{t tr e:TypeId}{pos:String}{after:Array Edge}{α:Type}{E:Enc α}{F:Nat->Prop}
end
theorem OwnF.lit1 {α:Type}{G:Flat α}{ty:TypeId}{B:Nat}{w:World}{b:Nat}{u:Value}{x:α}(hs:G.sz=1)(h:Own0 w b ty [u])(hu:G.e x=[u])(hB:B<=b):OwnF G ty B w (.slice (some ⟨b,0,none⟩) 1 1) [x]:=by
 refine ⟨⟨by rw[G.length],.inr ⟨b,1,#[u],rfl,hB,h,by simp,by unfold maxLen;omega,by simp[hs],?_⟩⟩,by unfold maxLen;simp⟩
 simp[hs,hu]
end Go.Pn
end
section
namespace Go.Pn.Bt
open Go Go.Pn Go.Pn.Jn
theorem ord_ext {a b:List Ent}(ha:Ord a)(hb:Ord b)(h:∀k,get a k=get b k):a=b:=by
 refine pw_ext (R:=λa b:Ent=>BL a.1 b.1) (λa=>bl_irrefl a.1) (λh k=>bl_trans h k) ha.up hb.up λx=>⟨λhx=>?_,λhx=>?_⟩
 ·have:=get_mem ha hx
  rw[h] at this;exact mem_get this
 ·have:=get_mem hb hx
  rw[<-h] at this;exact mem_get this
theorem oj_none (x:Option Cart):oj x none=x:=by cases x<;>rfl
theorem get_good {l:List Ent}(h:Ord l){k:Name}{c:Cart}(hc:get l k=some c):GoodC c:=(h.ok _ (mem_get hc)).2
end Go.Pn.Bt
end
section
namespace Go.Pn.Cn
open Go Go.Pn
end Go.Pn.Cn
namespace Go.Pn.Cn
theorem flat_bound {α:Type}{f:α->List UInt8}{b n:Nat}{l:List α}(h:∀x∈l,(f x).length<=b)(hn:l.length<=n):(l.flatMap f).length<=b*n:=Nat.le_trans (flatMap_le h) (Nat.mul_le_mul_left b hn)
theorem bytes_small {a:Cart}(h:small a=true):(bytes a).length<=25000:=by
 obtain ⟨h1,h2,h3,h4⟩:=small_iff h;have g1:=flat_bound (f:=dotB) (b:=20) (n:=40) (l:=a.1.1) (λx _=>dotB_le x) h1;have g2:=flat_bound (f:=dotB) (b:=20) (n:=40) (l:=a.1.2) (λx _=>dotB_le x) h2;have g3:∀x∈a.2,(itemB x).length<=1000:=by
  intro x hx;obtain ⟨i1,i2⟩:=h4 x hx;have g:=flat_bound (f:=markB) (b:=40) (n:=20) (l:=x.2) (λm _=>markB_le m) i1;have n1:=num_le x.1.length (by omega);have n2:=num_le x.2.length (by omega);unfold itemB strB;simp only[List.length_append]
  omega
 have g4:=flat_bound (f:=itemB) (b:=1000) (n:=20) (l:=a.2) g3 h3;have n1:=num_le a.1.1.length (by omega);have n2:=num_le a.1.2.length (by omega);have n3:=num_le a.2.length (by omega);unfold bytes ctxB dotsB itemsB;simp only[List.length_append]
 omega
end Go.Pn.Cn
end
section
namespace Go.Pn.Bt
open Go Go.Pn Go.Pn.Jn
theorem rises_yes {l:List Ent}(h2:∀i,∀h:i+1<l.length,Op.bytesLess l[i].1 l[i+1].1=true):rises l=true:=Cn.adj_yes h2
theorem rises_no {l:List Ent}{i j:Nat}(hi:i<l.length)(hj:j<l.length)(hij:i=j+1)(h:Op.bytesLess l[j].1 l[i].1=false):rises l=false:=Cn.adj_no hi hj hij h
theorem ordered_of {l:List Ent}(h1:∀i,∀h:i<l.length,okE l[i]=true):ordered l=rises l:=by
 unfold ordered;rw[Cn.all_yes h1]
 rfl
theorem ent_small {x:Ent}(h1:x.1.length<=100)(h2:Cn.small x.2=true):(entB x).length<=25110:=by
 unfold entB Cn.strB;have:=Cn.bytes_small h2;have:=Cn.num_le x.1.length (by omega);simp only[List.length_append]
 omega
end Go.Pn.Bt
end
section
namespace Go.Pn.Bt
open Go Go.Pn Go.Pn.Jn
theorem smallE_of {x:Ent}(h1:x.1.length<=100)(h2:Cn.small x.2=true):smallE x=true:=by unfold smallE;rw[decide_eq_true h1,h2];rfl
theorem smallE_no1 {x:Ent}(h1:¬x.1.length<=100):smallE x=false:=by unfold smallE;rw[decide_eq_false h1];rfl
theorem smallE_no2 {x:Ent}(h2:Cn.small x.2=false):smallE x=false:=by unfold smallE;rw[h2,Bool.and_false]
theorem small_no {l:List Ent}{most:Int}{i:Nat}(hi:i<l.length)(h:smallE l[i]=false):small l most=false:=by unfold small;rw[Cn.all_no hi h,Bool.and_false]
theorem small_end {l:List Ent}{most:Int}{n:Nat}(hn:n=l.length)(h:(n:Int)<=most->∀i,∀hi:i<l.length,smallE l[i]=true)(_:True):decide ((n:Int)<=most)=small l most:=by
 subst hn;unfold small
 by_cases hm:(l.length:Int)<=most
 ·rw [Cn.all_yes (h hm),Bool.and_true]
 ·rw [decide_eq_false hm,Bool.false_and]
end Go.Pn.Bt
end
section
namespace Go.Pn
section
variable {w w':World}{F F' M:Nat->Prop}{r:(Raw×Raw)×Raw}{c:CartT}
end
section
variable {w w':World}{F F' M:Nat->Prop}{raw:List EntR}{l:List EntT}{v:Value}
theorem Sl.ents (h:Sl entE w F v l):∃raw,Sl entF.enc w F v raw∧EntL w F raw l:=by
 obtain ⟨rs,h1,h2,h3⟩:=Sl.raws (G:=entF) (R:=λr x=>r.1=x.1∧CartAt w F r.2 x.2) rfl (λcs x hr=>by
  obtain ⟨_,_,rfl,hs,_,_,rfl,⟨_,_,rfl,⟨va,rfl,hx⟩,vb,rfl,hy⟩,vc,rfl,hz⟩:=hr;obtain ⟨a1,rfl⟩:=hx.slv;obtain ⟨a2,rfl⟩:=hy.slv;obtain ⟨a3,rfl⟩:=hz.slv;have hs2:_=[str x.1]:=hs;subst hs2;exact ⟨(x.1,(a1,a2),a3),rfl,rfl,hx,hy,hz⟩) h
 exact ⟨rs,h1,h2,h3⟩
end
end Go.Pn
end
section
namespace Go.Pn
section
variable {td ti tm te:TypeId}{w w':World}{F F' M G G':Nat->Prop}{r:(Raw×Raw)×Raw}{c:CartT}
variable {raw:List EntR}{l:List EntT}{lo hi:Nat}{v:Value}
def SlS (te:TypeId)(w:World)(F F2:Nat->Prop)(v:Value)(l:List EntT):Prop:=∃raw,Fre entF te w F v raw∧EntL w F2 raw l
end
end Go.Pn
end
section
namespace Go.Pn
section
variable {td ti tm te:TypeId}{w w':World}{F F' M G G':Nat->Prop}{r:(Raw×Raw)×Raw}{c:CartT}
theorem CartF.stn {K:Nat}(h:CartF td ti tm w F r c)(hn:∀x∈c.2,x.1.length<=K):∃ps,Stn td ti tm w F r.1.1 r.1.2 r.2 ps K:=by
 obtain ⟨a1,a2,a3,ps,e1,e2,e3,hs⟩:=Stn.of h.1 h.2.1 h.2.2 hn;rw[slv_inj e1,slv_inj e2,slv_inj e3];exact ⟨ps,hs⟩
theorem CartF.len (h:CartF td ti tm w F r c):r.2.2.1=c.2.length:=by
 obtain ⟨raw,h1,h2⟩:=h.2.2;rw[h1.len,h2.1]
def RestE (td ti tm:TypeId)(w:World)(G:Nat->Prop)(b:Nat->Nat)(i:Nat)(raw:List EntR)(l:List EntT):Prop:=
 ∀j,∀h:j<raw.length,∀h':j<l.length,i<=j->CartF td ti tm w (λq=>G q∧b j<=q∧q<b (j+1)) raw[j].2 l[j].2
variable {raw:List EntR}{l:List EntT}{b:Nat->Nat}{i:Nat}
theorem RestE.kM (h:RestE td ti tm w G b i raw l)(e:Ext M w w')(hM:∀k,(G k∧∃j,j<l.length∧i<=j∧b j<=k∧k<b (j+1))->¬M k):RestE td ti tm w' G b i raw l:=λj h1 h2 h3=>(h j h1 h2 h3).kM e λk hk=>hM k ⟨hk.1,j,h2,h3,hk.2⟩
theorem RestE.next (h:RestE td ti tm w G b i raw l):RestE td ti tm w G b (i+1) raw l:=λj h1 h2 h3=>h j h1 h2 (by omega)
end
end Go.Pn
end
section
namespace Go.Pn
section
variable
 {d:Nat}{x:Operand}{t tr e:TypeId}{pos:String}{after:Array Edge}
end
theorem Clip.ptr {u v:Value}{g n cap:Nat}(h:Clip u v)(hu:u=.slice (some ⟨g,0,none⟩) n cap):∃cap2,v=.slice (some ⟨g,0,none⟩) n cap2:=by
 rcases h with rfl|⟨g',n',cap',h1,h2⟩
 ·exact ⟨cap,hu⟩
 ·rw [h1] at hu
  cases hu;exact ⟨n,h2⟩
end Go.Pn
end
section
namespace Go.Pn.Ob
open Go Go.Pn Go.Pn.Jn Go.Pn.Bt
theorem keys_mem {l:List Ent}{k:Name}:k∈keys l↔∃x∈l,x.1=k:=List.mem_map
theorem get_keys {l:List Ent}{k:Name}:(get l k).isSome↔k∈keys l:=by
 unfold Bt.get;rw[Option.isSome_map,List.find?_isSome,keys_mem];simp only[decide_eq_true_eq]
end Go.Pn.Ob
end
