/-
 The frame of a walk, control and plain operations: the weakest precondition of the kit over frames that are functions of slots. No condition.
-/
import Derived.WalkKit
import Derived.WalkSpells
import Derived.WalkLawsBesides
import Derived.Laws.AppendOwnNone
import Derived.Great.BuildSlice
import Derived.OrdersHeld
import Derived.Laws.Externs
import Derived.Laws.Cells
import Derived.Laws.Tables
import Derived.Laws.StructEq
import Derived.Deep.Draws
import Derived.Sort.Grow
import Derived.Maps.RangeRun
import Derived.MapKept
import Derived.Laws.RangeString
import Derived.ProofKit
import Derived.OpenShut
import Derived.WideKeyArgs
import Derived.LaidLaws
import Derived.Deep.DeepHandedRow
import Derived.Deep.DeepWitnessRowRef
import Derived.Lib.LaidTab
import Derived.Deep.Slices
import Derived.Lib.AppendZeros
import Derived.Lib.AppendStr
import Derived.Lib.IndexMore
import Derived.Lib.TrimByte
import Derived.Lib.ItoaMem
import Derived.Lib.AtoiAllCases
import Derived.Lib.Bytealg
import Derived.Lib.Join
import Derived.Lib.IndexLaws
section
namespace Go.Pn
open Go.RowKit
abbrev Val:=Nat->Value
abbrev ZO (d:Nat)(op:Op)(ty:TypeId)(pos:String)(after:Array Edge):Oper:={dst:=some d,op:=op,type:=ty,pos:=pos,after:=after,guard:=.none}
theorem nbeq_false {i d:Nat}(h:i≠d):Nat.beq i d=false:=by
 cases hb:Nat.beq i d with
 |false=>rfl
 |true=>exact absurd (Nat.eq_of_beq_eq_true hb) h
theorem cB {a b:Bool}(h:a=b):Value.bool a=Value.bool b:=congrArg Value.bool h
theorem cI {a b:Int}(h:a=b):Value.int .i64 a=Value.int .i64 b:=congrArg (Value.int .i64) h
theorem dF {p:Prop}[Decidable p](h:¬p):decide p=false:=decide_eq_false h
theorem dT {p:Prop}[Decidable p](h:p):decide p=true:=decide_eq_true h
theorem nbeq_self (i:Nat):Nat.beq i i=true:=Nat.beq_refl i
def upd (f:Val)(d:Nat)(v:Value):Val:=λi=>cond (Nat.beq i d) v (f i)
def Fr (n:Nat)(f:Val):Act:={tmps:=((List.range n).map f).toArray,defers:=[]}
def ev (n:Nat)(f:Val):Operand->Value
 |.tmp t=>cond (Nat.ble (t+1) n) (f t) undef
 |.const v=>v
 |.global g=>.pointer (some ⟨g,0,none⟩)
 |.func k=>.func (.func k) #[] #[]
theorem eval_Fr (n:Nat)(f:Val):(Fr n f).eval=ev n f:=by
 funext x
 cases x with
 |tmp t=>
  simp only[Act.eval,Fr,ev,Array.getD_eq_getD_getElem?,List.getElem?_toArray,List.getElem?_map]
  by_cases h:t<n
  ·have:Nat.ble (t+1) n=true:=Nat.ble_eq_true_of_le h
   simp[this,h]
  ·have:Nat.ble (t+1) n=false:=by
    cases hb:Nat.ble (t+1) n with
    |true=>exact absurd (Nat.le_of_ble_eq_true hb) h
    |false=>rfl
   simp[this,h]
 |const v=>rfl
 |global g=>rfl
 |func k=>rfl
theorem put_Fr (n:Nat)(f:Val)(d:Nat)(v:Value):(Fr n f).put (some d) v=Fr n (upd f d v):=by
 simp only[Act.put,Fr,Act.mk.injEq,and_true]
 apply Array.ext_getElem?
 intro i;simp only[Array.getElem?_setIfInBounds,List.getElem?_toArray,List.getElem?_map,List.size_toArray,List.length_map,List.length_range]
 by_cases hi:d=i
 ·subst hi
  by_cases h:d<n
  ·simp [h,upd]
  ·simp [h]
 ·rw [if_neg hi]
  by_cases h:i<n
  ·simp [h,upd,nbeq_false (Ne.symm hi)]
  ·simp [h]
theorem put_none (a:Act)(v:Value):a.put none v=a:=rfl
def Ex (n:Nat)(N:Val->World->Prop)(X:Nat->Val->World->Prop)(R:Val->World->Prop)(Z:List PanicEntry->World->Prop):Exit->Act->World->Prop
 |.normal,a,w=>∃f,a=Fr n f∧N f w
 |.exit i,a,w=>∃f,a=Fr n f∧X i f w
 |.ret,a,w=>∃f,a=Fr n f∧R f w
 |.panic ch,a,w=>a.defers=[]∧Z ch w
 |_,_,_=>False
def C (P:Program)(n:Nat)(c:Code)(N:Val->World->Prop)(X:Nat->Val->World->Prop)(R:Val->World->Prop)(Z:List PanicEntry->World->Prop)(f:Val)(w:World):Prop:=
 c.wp P (Ex n N X R Z) (Fr n f) w
def O (P:Program)(n:Nat)(ops:List Oper)(l:List Oper)(N:Val->World->Prop)(Z:List PanicEntry->World->Prop)(f:Val)(w:World):Prop:=
 wpList P ops.toArray (Ex n N (λ_ _ _=>False) (λ_ _=>False) Z) l (Fr n f) w
section
variable {P:Program}{n:Nat}{N N':Val->World->Prop}{X:Nat->Val->World->Prop}{R:Val->World->Prop}{Z:List PanicEntry->World->Prop}{f:Val}{w:World}{a b c:Code}
theorem C.seqK (h:∀K:Val->World->Prop,(∀f w,C P n b N X R Z f w->K f w)->C P n a K X R Z f w):C P n (.seq a b) N X R Z f w:=by
 have h:=h _ (λ_ _ h=>h);refine wp_seq (wp_mono h ?_);intro e a w he;cases e with
 |normal=>obtain ⟨f,rfl,hb⟩:=he;exact hb
 |exit i=>exact he
 |goto l=>exact he
 |ret=>exact he
 |panic ch=>exact he
 |outgrown=>exact he
theorem C.skip (h:N f w):C P n .skip N X R Z f w:=wp_skip ⟨f,rfl,h⟩
theorem C.ret (h:R f w):C P n .ret N X R Z f w:=wp_ret ⟨f,rfl,h⟩
theorem C.exit {i:Nat}(h:X i f w):C P n (.exit i) N X R Z f w:=wp_exit ⟨f,rfl,h⟩
theorem C.block {i:Nat}(h:∀K:Val->World->Prop,(∀f w,N f w->K f w)->C P n c K (λj f w=>_root_.cond (Nat.beq j i) (K f w) (X j f w)) R Z f w):C P n (.block i c) N X R Z f w:=by
 have h:=h N (λ_ _ h=>h);refine wp_block (wp_mono h ?_);intro e a w he;cases e with
 |normal=>exact he
 |exit j=>
  obtain ⟨f,rfl,hx⟩:=he;simp only[Exit.inBlock]
  by_cases hj:j=i
  ·subst hj
   rw[if_pos rfl];rw[nbeq_self] at hx;exact ⟨f,rfl,hx⟩
  ·rw [if_neg hj]
   rw[nbeq_false hj] at hx;exact ⟨f,rfl,hx⟩
 |goto l=>exact he
 |ret=>exact he
 |panic ch=>exact he
 |outgrown=>exact he
theorem C.cond {x:Operand}{t:Bool}(hx:ev n f x=.bool t)(h1:t=true->C P n a N X R Z f w)(h2:t=false->C P n b N X R Z f w):C P n (.cond x a b) N X R Z f w:=
 wp_cond_split (by rw[eval_Fr];exact hx) h1 h2
theorem C.condD {x:Operand}{p:Prop}[Decidable p](hx:ev n f x=.bool (decide p))(h1:p->C P n a N X R Z f w)(h2:¬p->C P n b N X R Z f w):C P n (.cond x a b) N X R Z f w:=
 C.cond hx (λh=>h1 (of_decide_eq_true h)) (λh=>h2 (of_decide_eq_false h))
theorem C.condT {x:Operand}(hx:ev n f x=.bool true)(h1:C P n a N X R Z f w):C P n (.cond x a b) N X R Z f w:=C.cond hx (λ_=>h1) (λh=>by cases h)
theorem C.condF {x:Operand}(hx:ev n f x=.bool false)(h1:C P n b N X R Z f w):C P n (.cond x a b) N X R Z f w:=C.cond hx (λh=>by cases h) (λ_=>h1)
theorem C.region {id:Nat}{l:List Oper}(h:O P n l l N Z f w):C P n (.region id l.toArray false) N X R Z f w:=
 wp_region_lit (wpList_mono' h)
where
 wpList_mono' (h:O P n l l N Z f w):wpList P l.toArray (Ex n N X R Z) l (Fr n f) w:=by
  have key:∀(l':List Oper) (a:Act) (w:World),wpList P l.toArray (Ex n N (λ_ _ _=>False) (λ_ _=>False) Z) l' a w->wpList P l.toArray (Ex n N X R Z) l' a w:=by
   intro l'
   induction l' with
   |nil=>intro a w h;exact h
   |cons o l' ih=>
    intro a w h;simp only[wpList] at h ⊢
    split at h
    ·rename_i hw
     rw[if_pos hw];rcases h with h|⟨_,a0,w0,h0⟩
     ·left
      simp only[Oper.wp] at h ⊢
      generalize (execOp a.eval o).run P w=r at h ⊢
      cases r with
      |ok nx w'=>
       cases nx with
       |value v=>exact ih _ _ h
       |skip=>exact ih _ _ h
       |defer d=>exact ih _ _ h
       |enter k args=>
        refine Calls.mono h ?_;intro e w'' he;cases e with
        |returned v=>exact ih _ _ he
        |panicked ch=>exact he
        |outgrown=>obtain ⟨a0,w0,h0⟩:=he;exact h0.elim
       |row r args=>exact Rows.mono h λv w'' hv=>ih _ _ hv
       |_=>exact h.elim
      |halt hh w'=>cases hh<;>first|exact h|exact h.elim
     ·exact h0.elim
    ·rename_i hw
     rw[if_neg hw];exact ih _ _ h
  exact key l _ _ h
theorem C.loop {σ:Type}(I:σ->Val->World->Prop)(μ:σ->Nat)(s0:σ)(h0:I s0 f w)
 (round:∀s f w,I s f w->C P n c (λf' w'=>∃s',I s' f' w'∧μ s'<μ s) X R Z f w):C P n (.loop c) N X R Z f w:=by
 intro b k cs;have key:∀m s f w,μ s=m->I s f w->
  ∃e a' w',Ex n N X R Z e a' w'∧Arrives P (lone (b.at (Fr n f) (.code c::.inLoop c::k)) cs w) b k cs e a' w':=by
  intro m
  induction m using Nat.strongRecOn with
  |_ m ih=>
   intro s f w hn hI;obtain ⟨e,a₁,w₁,hq,harr⟩:=round s f w hI b (.inLoop c::k) cs;cases e with
   |normal=>
    obtain ⟨f',rfl,s',hI₁,hlt⟩:=hq;obtain ⟨e₂,a₂,w₂,hq₂,harr₂⟩:=ih (μ s') (hn ▸ hlt) s' f' w₁ rfl hI₁;exact ⟨e₂,a₂,w₂,hq₂,.of_steps (Steps.trans harr (.one step_inLoop)) harr₂⟩
   |exit i=>exact ⟨.exit i,a₁,w₁,hq,.pass (x:=.inLoop c) rfl (λ_ _=>.inl (by simp)) harr⟩
   |goto l=>exact ⟨.goto l,a₁,w₁,hq,.pass (x:=.inLoop c) rfl (λ_ _=>.inl (by simp)) harr⟩
   |ret=>exact ⟨.ret,a₁,w₁,hq,.pass (x:=.inLoop c) rfl (λ_ _=>.inl (by simp)) harr⟩
   |panic ch=>exact ⟨.panic ch,a₁,w₁,hq,.pass (x:=.inLoop c) rfl (λ_ _=>.inl (by simp)) harr⟩
   |outgrown=>exact ⟨.outgrown,a₁,w₁,hq,.pass (x:=.inLoop c) rfl (λ_ _=>.inl (by simp)) harr⟩
 obtain ⟨e,a',w',hq,harr⟩:=key _ s0 f w rfl h0;exact ⟨e,a',w',hq,.of_steps (.one step_loop) harr⟩
theorem C.loop0 {σ:Type}(I:Val->World->σ->Val->World->Prop)(μ:σ->Nat)(s0:σ)(h0:I f w s0 f w)
 (round:∀s f' w',I f w s f' w'->C P n c (λf'' w''=>∃s',I f w s' f'' w''∧μ s'<μ s) X R Z f' w'):C P n (.loop c) N X R Z f w:=
 C.loop (I f w) μ s0 h0 round
theorem C.sr {id:Nat}{l:List Oper}(h:∀{K:Val->World->Prop},(∀{ops:List Oper} {Z':List PanicEntry->World->Prop} {f:Val} {w:World},C P n b N X R Z f w->O P n ops [] K Z' f w)->O P n l l K Z f w):C P n (.seq (.region id l.toArray false) b) N X R Z f w:=
 C.seqK λK hK=>C.region (h (K:=K) λh=>⟨_,rfl,hK _ _ h⟩)
theorem C.sq (h:∀{K:Val->World->Prop},(∀{f:Val} {w:World},C P n b N X R Z f w->K f w)->C P n a K X R Z f w):C P n (.seq a b) N X R Z f w:=
 C.seqK λK hK=>h (K:=K) λh=>hK _ _ h
theorem C.bl {i:Nat}(h:∀{K:Val->World->Prop},(∀{f:Val} {w:World},N f w->K f w)->C P n c K (λj f w=>_root_.cond (Nat.beq j i) (K f w) (X j f w)) R Z f w):C P n (.block i c) N X R Z f w:=
 C.block λK hK=>h (K:=K) λh=>hK _ _ h
theorem C.mono (h:C P n c N X R Z f w)(hN:∀f w,N f w->N' f w):C P n c N' X R Z f w:=by
 refine wp_mono h ?_;intro e a w he;cases e with
 |normal=>obtain ⟨f,rfl,hf⟩:=he;exact ⟨f,rfl,hN _ _ hf⟩
 |exit i=>exact he
 |goto l=>exact he
 |ret=>exact he
 |panic ch=>exact he
 |outgrown=>exact he
end
def Ret (P:Program)(k:FuncId)(args:Array Value)(w:World)(Post:Value->World->Prop):Prop:=
 Calls P k args w λe w'=>match e with|.returned v=>Post v w'|_=>False
def RetZ (P:Program)(k:FuncId)(args:Array Value)(w:World)(Post:Value->World->Prop)(Z:List PanicEntry->World->Prop):Prop:=
 Calls P k args w λe w'=>match e with|.returned v=>Post v w'|.panicked ch=>Z ch w'|.outgrown=>False
theorem Ret.mono {P:Program}{k:FuncId}{args:Array Value}{w:World}{Q Q':Value->World->Prop}(h:Ret P k args w Q)(hq:∀v w',Q v w'->Q' v w'):Ret P k args w Q':=
 Calls.mono h λe w' he=>by cases e<;>first|exact hq _ _ he|exact he
theorem Ret.of {P:Program}{k:FuncId}{args:Array Value}{w:World}{R:Ending->World->Prop}{Q:Value->World->Prop}(h:Calls P k args w R)(hq:∀e w',R e w'->∃v,e=.returned v∧Q v w'):Ret P k args w Q:=
 Calls.mono h λe w' he=>by obtain ⟨v,rfl,hv⟩:=hq e w' he;exact hv
def init (args:List Value):Val:=λi=>args.getD i undef
theorem Fr_init (n:Nat)(args:List Value)(h:args.length<=n):
 ({tmps:=args.toArray++Array.replicate (n-args.toArray.size) undef,defers:=[]}:Act)=Fr n (init args):=by
 simp only[Fr,Act.mk.injEq,and_true]
 apply Array.ext_getElem?
 intro i;simp only[List.size_toArray,Array.getElem?_append,List.getElem?_toArray,Array.getElem?_replicate,List.getElem?_map]
 by_cases h1:i<args.length
 ·have h2:i<n:=by omega
  simp[h1,h2,init]
 ·by_cases h2:i<n
  ·have:i-args.length<n-args.length:=by omega
   simp[h1,h2,this,init]
  ·have:¬i-args.length<n-args.length:=by omega
   simp[h1,h2,this]
def Outs (P:Program)(fn:Func)(n:Nat)(Post:Value->World->Prop):Val->World->Prop:=
 λf w=>∃v,(results fn (Fr n f).tmps).run P w=.ok v w∧Post v w
theorem enterZ {P:Program}{k:FuncId}{fn:Func}{c:Code}{args:List Value}{n:Nat}{w:World}{Post:Value->World->Prop}{Z:List PanicEntry->World->Prop}
 (hf:P.funcs[k]? =some fn)(hb:fn.body=some c)(hn:fn.ntmps=n)(ha:args.length<=n)
 (h:C P n c (Outs P fn n Post) (λ_ _ _=>False) (Outs P fn n Post) Z (init args) w):RetZ P k args.toArray w Post Z:=by
 subst hn;refine calls_of_wp hf hb ?_;rw[Fr_init _ _ ha];refine wp_mono h ?_;intro e a w he;cases e with
 |normal=>obtain ⟨f,rfl,v,hv,hp⟩:=he;exact ⟨rfl,v,hv,hp⟩
 |ret=>obtain ⟨f,rfl,v,hv,hp⟩:=he;exact ⟨rfl,v,hv,hp⟩
 |exit i=>obtain ⟨f,rfl,hx⟩:=he;exact hx.elim
 |goto l=>exact he.elim
 |panic ch=>exact he
 |outgrown=>exact he.elim
theorem enter {P:Program}{k:FuncId}{fn:Func}{c:Code}{args:List Value}{n:Nat}{w:World}{Post:Value->World->Prop}
 (hf:P.funcs[k]? =some fn)(hb:fn.body=some c)(hn:fn.ntmps=n)(ha:args.length<=n)
 (h:C P n c (Outs P fn n Post) (λ_ _ _=>False) (Outs P fn n Post) (λ_ _=>False) (init args) w):Ret P k args.toArray w Post:=
 Calls.mono (enterZ hf hb hn ha h) λe w' he=>by cases e<;>first|exact he|exact he.elim
theorem leB {a b:Nat}(h:Nat.ble a b=true):a<=b:=Nat.le_of_ble_eq_true h
theorem enT {P:Program}{k:FuncId}{fn:Func}{c:Code}{w:World}{Post:Value->World->Prop}(args:List Value)(n:Nat)
 (hf:P.funcs[k]? =some fn)(hb:fn.body=some c)(hn:fn.ntmps=n)
 (h:C P n c (Outs P fn n Post) (λ_ _ _=>False) (Outs P fn n Post) (λ_ _=>False) (init args) w)(ha:args.length<=n:=by exact Nat.le_of_ble_eq_true rfl):Ret P k args.toArray w Post:=
 enter hf hb hn ha h
theorem getD_Fr (n:Nat)(f:Val)(t:Nat):(Fr n f).tmps.getD t undef=ev n f (.tmp t):=by
 have:=congrFun (eval_Fr n f) (.tmp t);exact this
theorem Outs.one {P:Program}{fn:Func}{n:Nat}{Post:Value->World->Prop}{f:Val}{w:World}{t:Nat}{v:Value}(hr:fn.results=#[.tmp t])(hv:ev n f (.tmp t)=v)(h:Post v w):Outs P fn n Post f w:=
 ⟨v,by rw[results_tmp hr,getD_Fr,hv],h⟩
theorem Outs.none {P:Program}{fn:Func}{n:Nat}{Post:Value->World->Prop}{f:Val}{w:World}(hr:fn.results=#[])(h:Post (.tuple #[]) w):Outs P fn n Post f w:=
 ⟨_,by rw[results_none hr],h⟩
theorem Outs.two {P:Program}{fn:Func}{n:Nat}{Post:Value->World->Prop}{f:Val}{w:World}{t u:Nat}{v v':Value}(hr:fn.results=#[.tmp t,.tmp u])(hv:ev n f (.tmp t)=v)(hv':ev n f (.tmp u)=v')(h:Post (.tuple #[v,v']) w):Outs P fn n Post f w:=
 ⟨_,by rw[results_tmp2 hr,getD_Fr,getD_Fr,hv,hv'],h⟩
section
variable {P:Program}{n:Nat}{N:Val->World->Prop}{X:Nat->Val->World->Prop}{Z:List PanicEntry->World->Prop}{f:Val}{w:World}
theorem C.r1 {fn:Func}{Post:Value->World->Prop}{t:Nat}(h:Post (ev n f (.tmp t)) w)(hr:fn.results=#[.tmp t]:=by rfl):C P n .ret N X (Outs P fn n Post) Z f w:=C.ret (Outs.one hr rfl h)
theorem C.r2 {fn:Func}{Post:Value->World->Prop}{t u:Nat}(h:Post (.tuple #[ev n f (.tmp t),ev n f (.tmp u)]) w)(hr:fn.results=#[.tmp t,.tmp u]:=by rfl):C P n .ret N X (Outs P fn n Post) Z f w:=C.ret (Outs.two hr rfl rfl h)
end
section
variable {P:Program}{n:Nat}{ops rest:List Oper}{N:Val->World->Prop}{Z:List PanicEntry->World->Prop}{f:Val}{w:World}
theorem O.o (h:N f w):O P n ops [] N Z f w:=⟨f,rfl,h⟩
theorem O.val {o:Oper}{d:Nat}{v:Value}{w':World}(hg:o.guard=.none)(hd:o.dst=some d)(hrun:(execOp (ev n f) o).run P w=.ok (.value v) w')
 (h:O P n ops rest N Z (upd f d v) w'):O P n ops (o::rest) N Z f w:=by
 unfold O at h ⊢;refine wpList_plain hg λK hK=>?_
 simp only[Oper.wp,eval_Fr,hrun,Oper.upon_value,hd,put_Fr];exact hK _ _ h
theorem O.act {o:Oper}{w':World}(hg:o.guard=.none)(hd:o.dst=.none)(hrun:(execOp (ev n f) o).run P w=.ok .skip w')
 (h:O P n ops rest N Z f w'):O P n ops (o::rest) N Z f w:=by
 unfold O at h ⊢;refine wpList_plain hg λK hK=>?_
 simp only[Oper.wp,eval_Fr,hrun,Oper.upon_skip,hd,put_none];exact hK _ _ h
theorem O.cast {d:Nat}{v v':Value}(hv:v=v')(h:O P n ops rest N Z (upd f d v') w):O P n ops rest N Z (upd f d v) w:=hv ▸ h
theorem O.yes {dst:Option Nat}{op:Op}{ty:TypeId}{pos:String}{after:Array Edge}{j dj:Nat}{b:Bool}
 (hj:(ops[j]?).bind (·.dst)=some dj)(hv:ev n f (.tmp dj)=.bool b)
 (h:O P n ops ({dst:=dst,op:=op,type:=ty,pos:=pos,after:=after,guard:=.none}::rest) N Z f w):
 O P n ops ({dst:=dst,op:=op,type:=ty,pos:=pos,after:=after,guard:=some (j,b)}::rest) N Z f w:=by
 unfold O at h ⊢;have hy:yielded ops.toArray (Fr n f).tmps j=some b:=by
  have hd:=getD_Fr n f dj;rw[hv] at hd;unfold yielded;have h1:(ops.toArray[j]?).bind (·.dst)=some dj:=by simpa using hj
  rw[h1];simp only[Option.bind_some];rw[Array.getD_eq_getD_getElem?] at hd;cases hx:(Fr n f).tmps[dj]? with
  |none=>rw[hx] at hd;simp[undef] at hd
  |some v=>rw[hx] at hd;simp at hd;subst hd;rfl
 simp only[wpList,Region.wanted,hy,beq_self_eq_true,if_true] at h ⊢;exact h
def isB (b:Bool):Value->Bool
 |.bool c=>c==b
 |_=>false
theorem O.no {d:Nat}{op:Op}{ty:TypeId}{pos:String}{after:Array Edge}{j dj:Nat}{b:Bool}
 (hj:(ops[j]?).bind (·.dst)=some dj)(hv:isB b (ev n f (.tmp dj))=false)
 (h:O P n ops rest N Z (upd f d undef) w):
 O P n ops ({dst:=some d,op:=op,type:=ty,pos:=pos,after:=after,guard:=some (j,b)}::rest) N Z f w:=by
 unfold O at h ⊢;have hy:(yielded ops.toArray (Fr n f).tmps j==some b)=false:=by
  have hd:=getD_Fr n f dj;unfold yielded;have h1:(ops.toArray[j]?).bind (·.dst)=some dj:=by simpa using hj
  rw[h1];simp only[Option.bind_some];rw[Array.getD_eq_getD_getElem?] at hd;cases hx:(Fr n f).tmps[dj]? with
  |none=>rfl
  |some v=>
   rw[hx] at hd
   simp at hd
   rw[<-hd] at hv;cases v<;>first|rfl|(simp[isB] at hv;simp;exact hv)
 simp only[wpList,Region.wanted,hy];rw[put_Fr]
 simpa using h
theorem O.call {d k:Nat}{xs:List Operand}{vs:List Value}{ats:Array TypeId}{ty:TypeId}{pos:String}{after:Array Edge}{Post:Value->World->Prop}
 (hk:∀args w,(callFunc k args).run P w=.ok (.enter k args) w)(hxs:xs.map (ev n f)=vs)
 (hc:Ret P k vs.toArray w Post)(h:∀v w',Post v w'->O P n ops rest N Z (upd f d v) w'):
 O P n ops (ZO d (.call {callee:=.value (.func k),args:=xs.toArray,argTypes:=ats}) ty pos after::rest) N Z f w:=by
 subst hxs;unfold O at h ⊢;refine wpList_plain rfl λK hK=>?_
 have hrun:(execOp (ev n f) (ZO d (.call {callee:=.value (.func k),args:=xs.toArray,argTypes:=ats}) ty pos after)).run P w=.ok (.enter k (xs.map (ev n f)).toArray) w:=by
  simp[execOp,resolve,Deferred.ofValue,invoke,ev,hk]
 simp only[Oper.wp,eval_Fr,hrun,Oper.upon_enter];refine Calls.mono hc ?_;intro e w' he;cases e with
 |returned v=>show K ((Fr n f).put (some d) v) w';rw[put_Fr];exact hK _ _ (h v w' he)
 |panicked ch=>exact he.elim
 |outgrown=>exact he.elim
theorem args1 {x0:Operand}{v0:Value}(h0:ev n f x0=v0):[x0].map (ev n f)=[v0]:=by simp[h0]
theorem args2 {x0 x1:Operand}{v0 v1:Value}(h0:ev n f x0=v0)(h1:ev n f x1=v1):[x0,x1].map (ev n f)=[v0,v1]:=by simp[h0,h1]
theorem args3 {x0 x1 x2:Operand}{v0 v1 v2:Value}(h0:ev n f x0=v0)(h1:ev n f x1=v1)(h2:ev n f x2=v2):[x0,x1,x2].map (ev n f)=[v0,v1,v2]:=by simp[h0,h1,h2]
theorem O.mv {d:Nat}{x:Operand}{ty:TypeId}{pos:String}{after:Array Edge}
 (h:O P n ops rest N Z (upd f d (ev n f x)) w):
 O P n ops (ZO d (.move x) ty pos after::rest) N Z f w:=
 O.val rfl rfl rfl h
theorem O.j {d:Nat}{x:Operand}{ty:TypeId}{pos:String}{after:Array Edge}
 (h:O P n ops rest N Z (upd f d (ev n f x)) w):
 O P n ops (ZO d (.assign x) ty pos after::rest) N Z f w:=
 O.val rfl rfl rfl h
theorem O.pickT {d:Nat}{c x y:Operand}{ty:TypeId}{pos:String}{after:Array Edge}(hc:ev n f c=.bool true)
 (h:O P n ops rest N Z (upd f d (ev n f x)) w):
 O P n ops (ZO d (.pick c x y) ty pos after::rest) N Z f w:=
 O.val rfl rfl (by simp[execOp,hc,asBool]) h
theorem O.pickF {d:Nat}{c x y:Operand}{ty:TypeId}{pos:String}{after:Array Edge}(hc:ev n f c=.bool false)
 (h:O P n ops rest N Z (upd f d (ev n f y)) w):
 O P n ops (ZO d (.pick c x y) ty pos after::rest) N Z f w:=
 O.val rfl rfl (by simp[execOp,hc,asBool]) h
theorem O.extract {d i:Nat}{x:Operand}{vs:Array Value}{v:Value}{ty:TypeId}{pos:String}{after:Array Edge}(hx:ev n f x=.tuple vs)(hv:vs[i]? =some v)
 (h:O P n ops rest N Z (upd f d v) w):
 O P n ops (ZO d (.extract x i) ty pos after::rest) N Z f w:=
 O.val rfl rfl (by simp[execOp,hx,Instr.extract,hv]) h
theorem O.not {d:Nat}{x:Operand}{b:Bool}{t ty:TypeId}{pos:String}{after:Array Edge}(hx:ev n f x=.bool b)
 (h:O P n ops rest N Z (upd f d (.bool (!b))) w):
 O P n ops (ZO d (.unOp .not t x) ty pos after::rest) N Z f w:=
 O.val rfl rfl (by simp[execOp,hx,Op.unary]) h
theorem O.split {b:Bool}{l:List Oper}{x:Operand}(_:ev n f x=.bool b)(h1:b=true->O P n ops l N Z f w)(h2:b=false->O P n ops l N Z f w):O P n ops l N Z f w:=by
 cases b
 ·exact h2 rfl
 ·exact h1 rfl
theorem O.splitD {p:Prop}[Decidable p]{l:List Oper}{x:Operand}(_:ev n f x=.bool (decide p))(h1:p->O P n ops l N Z f w)(h2:¬p->O P n ops l N Z f w):O P n ops l N Z f w:=by
 by_cases h:p
 ·exact h1 h
 ·exact h2 h
theorem dAnd {A B:Prop}[Decidable A][Decidable B](h:A):decide B=decide (A∧B):=by simp[h]
theorem dAndF {A B:Prop}[Decidable A][Decidable B](h:¬A):false=decide (A∧B):=by simp[h]
theorem dOr {A B:Prop}[Decidable A][Decidable B](h:¬A):decide B=decide (A∨B):=by simp[h]
theorem dOrT {A B:Prop}[Decidable A][Decidable B](h:A):true=decide (A∨B):=by simp[h]
theorem dJ {v:Value}{a b:Bool}(h:v=.bool a)(e:a=b:=by first|rfl|exact dAnd (by assumption)|exact dAndF (by assumption)|exact dOr (by assumption)|exact dOrT (by assumption)):v=.bool b:=e ▸ h
theorem isT {v:Value}{p:Prop}[Decidable p](hv:v=.bool (decide p))(h:p):v=.bool true:=by rw[hv,decide_eq_true h]
theorem isF {v:Value}{p:Prop}[Decidable p](hv:v=.bool (decide p))(h:¬p):v=.bool false:=by rw[hv,decide_eq_false h]
theorem isT' {v:Value}{b:Bool}(hv:v=.bool b)(h:b=true):v=.bool true:=by rw[hv,h]
theorem isF' {v:Value}{b:Bool}(hv:v=.bool b)(h:b=false):v=.bool false:=by rw[hv,h]
theorem noB {v:Value}{b:Bool}{c:Bool}(hv:v=.bool b)(h:(b==c)=false):isB c v=false:=by rw[hv];exact h
theorem noU {v:Value}{c:Bool}(hv:v=undef):isB c v=false:=by rw[hv];rfl
theorem O.cut (k:Nat)(J:Val->Val->Prop){l:List Oper}(h1:O P n ops (l.take k) (λf' w'=>J f f'∧w'=w) Z f w)(h2:∀f',J f f'->O P n ops (l.drop k) N Z f' w):O P n ops l N Z f w:=by
 have key:∀(a b:List Oper) (M:Val->World->Prop) (x:Act) (u:World),
  wpList P ops.toArray (Ex n M (λ_ _ _=>False) (λ_ _=>False) Z) a x u->(∀f' w',M f' w'->wpList P ops.toArray (Ex n N (λ_ _ _=>False) (λ_ _=>False) Z) b (Fr n f') w')->
  wpList P ops.toArray (Ex n N (λ_ _ _=>False) (λ_ _=>False) Z) (a++b) x u:=by
  intro a b M
  induction a with
  |nil=>intro x u h hm;obtain ⟨f',rfl,h⟩:=h;exact hm _ _ h
  |cons o a ih=>
   intro x u h hm;simp only[wpList,List.cons_append] at h ⊢
   split at h
   ·rename_i hw
    rw[if_pos hw];rcases h with h|⟨_,a0,w0,h0⟩
    ·left
     simp only[Oper.wp] at h ⊢
     generalize (execOp x.eval o).run P u=r at h ⊢
     cases r with
     |ok nx w'=>
      cases nx with
      |value v=>exact ih _ _ h hm
      |skip=>exact ih _ _ h hm
      |defer d=>exact ih _ _ h hm
      |enter k args=>
       refine Calls.mono h ?_;intro e w'' he;cases e with
       |returned v=>exact ih _ _ he hm
       |panicked ch=>exact he
       |outgrown=>obtain ⟨a0,w0,h0⟩:=he;exact h0.elim
      |row r args=>exact Rows.mono h λv w'' hv=>ih _ _ hv hm
      |_=>exact h.elim
     |halt hh w'=>cases hh<;>first|exact h|exact h.elim
    ·exact h0.elim
   ·rename_i hw
    rw[if_neg hw];exact ih _ _ h hm
 have:=key (l.take k) (l.drop k) _ _ _ h1 (λf' w' hm=>by obtain ⟨hj,rfl⟩:=hm;exact h2 f' hj);rw[List.take_append_drop] at this;exact this
end
end Go.Pn
end
variable {P:Go.Program}{n:Nat}{ops rest:List Go.Oper}{N:Go.Pn.Val->Go.World->Prop}{Z:List Go.PanicEntry->Go.World->Prop}{f:Go.Pn.Val}{w:Go.World}
section
namespace Go.Pn
open Go.RowKit
abbrev i64 (n:Int):Value:=.int .i64 n
def InI (n:Int):Prop:= -9223372036854775808<=n∧n<=9223372036854775807
def str (l:List UInt8):Value:=.string ⟨l.toArray⟩
theorem wrap_in {n:Int}(h:InI n):IntKind.i64.wrap n=n:=by
 unfold InI at h;have e:IntKind.i64.wrap n=if (true&&decide (n%18446744073709551616≥9223372036854775808))=true then n%18446744073709551616-18446744073709551616 else n%18446744073709551616:=rfl;rw[e]
 by_cases h0:0<=n
 ·rw [Int.emod_eq_of_lt h0 (by omega)]
  simp;omega
 ·have:n%18446744073709551616=n+18446744073709551616:=by omega
  rw[this]
  simp;omega
theorem ofInt_nat {m:Nat}(x:BitVec m):BitVec.ofInt m (x.toNat:Int)=x:=by
 apply BitVec.eq_of_toNat_eq
 rw[BitVec.toNat_ofInt];have h:=x.isLt;have:((x.toNat:Int)%((2^m:Nat):Int)).toNat=x.toNat:=by
  rw[Int.emod_eq_of_lt (by omega) (by exact_mod_cast h)];omega
 exact this
theorem wrap_u {k:IntKind}{m:Nat}(hk:k.bits=m)(hs:k.signed=false)(n:Int):k.wrap n=((BitVec.ofInt m n).toNat:Int):=by
 subst hk;simp only[IntKind.wrap,hs,Bool.false_and,Bool.false_eq_true,if_false,BitVec.toNat_ofInt];have h2:(0:Int)<2^k.bits:=Int.pow_pos (by decide);have:=Int.emod_nonneg n (Int.ne_of_gt h2);have e:((2^k.bits:Nat):Int)=(2:Int)^k.bits:=by norm_cast
 rw[e];omega
theorem ofInt_sub' {m:Nat}(a b:Int):BitVec.ofInt m (a-b)=BitVec.ofInt m a-BitVec.ofInt m b:=by
 rw[Int.sub_eq_add_neg,BitVec.ofInt_add,BitVec.ofInt_neg,BitVec.sub_eq_add_neg]
theorem wrap_u_nat {k:IntKind}{m:Nat}(hk:k.bits=m)(hs:k.signed=false)(x:BitVec m):k.wrap (x.toNat:Int)=(x.toNat:Int):=by
 rw[wrap_u hk hs,ofInt_nat]
section
variable
 {d:Nat}{x y:Operand}{t t' ty:TypeId}{pos:String}{after:Array Edge}
section
variable {a b:Int}
theorem O.addI (hx:ev n f x=i64 a)(hy:ev n f y=i64 b)(hb:InI (a+b))(h:O P n ops rest N Z (upd f d (i64 (a+b))) w):
 O P n ops (ZO d (.binOp .add t x y t') ty pos after::rest) N Z f w:=
 O.val rfl rfl (by simp[execOp,hx,hy,eqGuard,binOp,Op.intArith,wrap_in hb]) h
theorem O.subI (hx:ev n f x=i64 a)(hy:ev n f y=i64 b)(hb:InI (a-b))(h:O P n ops rest N Z (upd f d (i64 (a-b))) w):
 O P n ops (ZO d (.binOp .sub t x y t') ty pos after::rest) N Z f w:=
 O.val rfl rfl (by simp[execOp,hx,hy,eqGuard,binOp,Op.intArith,wrap_in hb]) h
theorem O.ad (hx:ev n f x=i64 a)(hy:ev n f y=i64 b)(h:O P n ops rest N Z (upd f d (i64 (a+b))) w)(hb:InI (a+b):=by unfold InI;omega):O P n ops (ZO d (.binOp .add t x y t') ty pos after::rest) N Z f w:=O.addI hx hy hb h
theorem O.sb (hx:ev n f x=i64 a)(hy:ev n f y=i64 b)(h:O P n ops rest N Z (upd f d (i64 (a-b))) w)(hb:InI (a-b):=by unfold InI;omega):O P n ops (ZO d (.binOp .sub t x y t') ty pos after::rest) N Z f w:=O.subI hx hy hb h
theorem O.mulI (hx:ev n f x=i64 a)(hy:ev n f y=i64 b)(hb:InI (a*b))(h:O P n ops rest N Z (upd f d (i64 (a*b))) w):
 O P n ops (ZO d (.binOp .mul t x y t') ty pos after::rest) N Z f w:=
 O.val rfl rfl (by simp[execOp,hx,hy,eqGuard,binOp,Op.intArith,wrap_in hb]) h
theorem O.addW (hx:ev n f x=i64 a)(hy:ev n f y=i64 b)(h:O P n ops rest N Z (upd f d (i64 (IntKind.i64.wrap (a+b)))) w):
 O P n ops (ZO d (.binOp .add t x y t') ty pos after::rest) N Z f w:=
 O.val rfl rfl (by simp[execOp,hx,hy,eqGuard,binOp,Op.intArith]) h
theorem O.remI (hx:ev n f x=i64 a)(hy:ev n f y=i64 b)(hb:0<=a∧0<b)(h:O P n ops rest N Z (upd f d (i64 (a%b))) w):
 O P n ops (ZO d (.binOp .rem t x y t') ty pos after::rest) N Z f w:=
 O.val rfl rfl (by
  have h1:b≠0:=by omega
  simp[execOp,hx,hy,eqGuard,binOp,Op.intDiv,h1,Int.tmod_eq_emod_of_nonneg hb.1]) h
theorem O.lssI (hx:ev n f x=i64 a)(hy:ev n f y=i64 b)(h:O P n ops rest N Z (upd f d (.bool (decide (a<b)))) w):
 O P n ops (ZO d (.binOp .lss t x y t') ty pos after::rest) N Z f w:=
 O.val rfl rfl (by simp[execOp,hx,hy,eqGuard,binOp,Op.intCmp]) h
theorem O.leqI (hx:ev n f x=i64 a)(hy:ev n f y=i64 b)(h:O P n ops rest N Z (upd f d (.bool (decide (a<=b)))) w):
 O P n ops (ZO d (.binOp .leq t x y t') ty pos after::rest) N Z f w:=
 O.val rfl rfl (by simp[execOp,hx,hy,eqGuard,binOp,Op.intCmp]) h
theorem O.gtrI (hx:ev n f x=i64 a)(hy:ev n f y=i64 b)(h:O P n ops rest N Z (upd f d (.bool (decide (b<a)))) w):
 O P n ops (ZO d (.binOp .gtr t x y t') ty pos after::rest) N Z f w:=
 O.val rfl rfl (by simp[execOp,hx,hy,eqGuard,binOp,Op.intCmp]) h
theorem O.geqI (hx:ev n f x=i64 a)(hy:ev n f y=i64 b)(h:O P n ops rest N Z (upd f d (.bool (decide (b<=a)))) w):
 O P n ops (ZO d (.binOp .geq t x y t') ty pos after::rest) N Z f w:=
 O.val rfl rfl (by simp[execOp,hx,hy,eqGuard,binOp,Op.intCmp]) h
theorem O.eqlI (hx:ev n f x=i64 a)(hy:ev n f y=i64 b)(h:O P n ops rest N Z (upd f d (.bool (decide (a=b)))) w):
 O P n ops (ZO d (.binOp .eql t x y t') ty pos after::rest) N Z f w:=
 O.val rfl rfl (by
  have e:(a==b)=decide (a=b):=by by_cases h:a=b<;>simp[h]
  simp[execOp,hx,hy,eqGuard,binOp,Op.intCmp,e]) h
theorem O.neqI (hx:ev n f x=i64 a)(hy:ev n f y=i64 b)(h:O P n ops rest N Z (upd f d (.bool (decide (a≠b)))) w):
 O P n ops (ZO d (.binOp .neq t x y t') ty pos after::rest) N Z f w:=
 O.val rfl rfl (by
  have e:(a !=b)=decide (a≠b):=by by_cases h:a=b<;>simp[h]
  simp[execOp,hx,hy,eqGuard,binOp,Op.intCmp,e]) h
end
theorem O.andI64 {a b:Int}(hx:ev n f x=i64 a)(hy:ev n f y=i64 b)(h:O P n ops rest N Z (upd f d (i64 (IntKind.i64.wrap ((BitVec.ofInt 64 a&&& BitVec.ofInt 64 b).toNat:Int)))) w):
 O P n ops (ZO d (.binOp .and t x y t') ty pos after::rest) N Z f w:=
 O.val rfl rfl (by simp only[execOp,hx,hy];rfl) h
theorem O.orI64 {a b:Int}(hx:ev n f x=i64 a)(hy:ev n f y=i64 b)(h:O P n ops rest N Z (upd f d (i64 (IntKind.i64.wrap ((BitVec.ofInt 64 a|||BitVec.ofInt 64 b).toNat:Int)))) w):
 O P n ops (ZO d (.binOp .or t x y t') ty pos after::rest) N Z f w:=
 O.val rfl rfl (by simp only[execOp,hx,hy];rfl) h
theorem i64_eq {a b:Int}(h:a=b):i64 a=i64 b:=by rw[h]
section
variable {k:IntKind}{m:Nat}{a b:BitVec m}
theorem O.addU (hk:k.bits=m)(hs:k.signed=false)(hx:ev n f x=.int k (a.toNat:Int))(hy:ev n f y=.int k (b.toNat:Int))(h:O P n ops rest N Z (upd f d (.int k ((a+b).toNat:Int))) w):
 O P n ops (ZO d (.binOp .add t x y t') ty pos after::rest) N Z f w:=
 O.val rfl rfl (by
  have e:k.wrap ((a.toNat:Int)+(b.toNat:Int))=((a+b).toNat:Int):=by
   rw[wrap_u hk hs,BitVec.ofInt_add,ofInt_nat,ofInt_nat]
  simp[execOp,hx,hy,eqGuard,binOp,Op.intArith,e]) h
theorem O.subU (hk:k.bits=m)(hs:k.signed=false)(hx:ev n f x=.int k (a.toNat:Int))(hy:ev n f y=.int k (b.toNat:Int))(h:O P n ops rest N Z (upd f d (.int k ((a-b).toNat:Int))) w):
 O P n ops (ZO d (.binOp .sub t x y t') ty pos after::rest) N Z f w:=
 O.val rfl rfl (by
  have e:k.wrap ((a.toNat:Int)-(b.toNat:Int))=((a-b).toNat:Int):=by
   rw[wrap_u hk hs,ofInt_sub',ofInt_nat,ofInt_nat]
  simp[execOp,hx,hy,eqGuard,binOp,Op.intArith,e]) h
theorem O.mulU (hk:k.bits=m)(hs:k.signed=false)(hx:ev n f x=.int k (a.toNat:Int))(hy:ev n f y=.int k (b.toNat:Int))(h:O P n ops rest N Z (upd f d (.int k ((a*b).toNat:Int))) w):
 O P n ops (ZO d (.binOp .mul t x y t') ty pos after::rest) N Z f w:=
 O.val rfl rfl (by
  have e:k.wrap ((a.toNat:Int)*(b.toNat:Int))=((a*b).toNat:Int):=by
   rw[wrap_u hk hs,BitVec.ofInt_mul,ofInt_nat,ofInt_nat]
  simp[execOp,hx,hy,eqGuard,binOp,Op.intArith,e]) h
theorem O.quoU (hk:k.bits=m)(hs:k.signed=false)(hx:ev n f x=.int k (a.toNat:Int))(hy:ev n f y=.int k (b.toNat:Int))(hb:b.toNat≠0)(h:O P n ops rest N Z (upd f d (.int k ((a/b).toNat:Int))) w):
 O P n ops (ZO d (.binOp .quo t x y t') ty pos after::rest) N Z f w:=
 O.val rfl rfl (by
  have h1:¬((b.toNat:Int)=0):=by omega
  have e:k.wrap ((a.toNat:Int).tdiv (b.toNat:Int))=((a/b).toNat:Int):=by
   rw[Int.tdiv_eq_ediv_of_nonneg (by omega),<-Int.natCast_ediv,<-BitVec.toNat_udiv,wrap_u_nat hk hs]
  simp only[execOp,hx,hy,eqGuard,binOp,Op.intDiv,if_neg h1,e,ne_eq,not_true_eq_false, ↓reduceIte]
  rfl) h
theorem O.remU (hk:k.bits=m)(hs:k.signed=false)(hx:ev n f x=.int k (a.toNat:Int))(hy:ev n f y=.int k (b.toNat:Int))(hb:b.toNat≠0)(h:O P n ops rest N Z (upd f d (.int k ((a%b).toNat:Int))) w):
 O P n ops (ZO d (.binOp .rem t x y t') ty pos after::rest) N Z f w:=
 O.val rfl rfl (by
  have h1:¬((b.toNat:Int)=0):=by omega
  have e:((a.toNat:Int).tmod (b.toNat:Int))=((a%b).toNat:Int):=by
   rw[Int.tmod_eq_emod_of_nonneg (by omega),<-Int.natCast_emod,<-BitVec.toNat_umod]
  have _:=hk;have _:=hs;simp only[execOp,hx,hy,eqGuard,binOp,Op.intDiv,if_neg h1,e,ne_eq,not_true_eq_false, ↓reduceIte]
  rfl) h
theorem O.andU (hk:k.bits=m)(hs:k.signed=false)(hx:ev n f x=.int k (a.toNat:Int))(hy:ev n f y=.int k (b.toNat:Int))(h:O P n ops rest N Z (upd f d (.int k ((a&&& b).toNat:Int))) w):
 O P n ops (ZO d (.binOp .and t x y t') ty pos after::rest) N Z f w:=
 O.val rfl rfl (by
  subst hk;simp only[execOp,hx,hy,eqGuard,binOp,Op.intBits,ofInt_nat,wrap_u_nat rfl hs,ne_eq,not_true_eq_false, ↓reduceIte]
  rfl) h
theorem O.orU (hk:k.bits=m)(hs:k.signed=false)(hx:ev n f x=.int k (a.toNat:Int))(hy:ev n f y=.int k (b.toNat:Int))(h:O P n ops rest N Z (upd f d (.int k ((a|||b).toNat:Int))) w):
 O P n ops (ZO d (.binOp .or t x y t') ty pos after::rest) N Z f w:=
 O.val rfl rfl (by
  subst hk;simp only[execOp,hx,hy,eqGuard,binOp,Op.intBits,ofInt_nat,wrap_u_nat rfl hs,ne_eq,not_true_eq_false, ↓reduceIte]
  rfl) h
theorem O.andNotU (hk:k.bits=m)(hs:k.signed=false)(hx:ev n f x=.int k (a.toNat:Int))(hy:ev n f y=.int k (b.toNat:Int))(h:O P n ops rest N Z (upd f d (.int k ((a&&& ~~~b).toNat:Int))) w):
 O P n ops (ZO d (.binOp .andNot t x y t') ty pos after::rest) N Z f w:=
 O.val rfl rfl (by
  subst hk;simp only[execOp,hx,hy,eqGuard,binOp,Op.intBits,ofInt_nat,wrap_u_nat rfl hs,ne_eq,not_true_eq_false, ↓reduceIte]
  rfl) h
theorem O.shlU {ky:IntKind}{c:Nat}(hk:k.bits=m)(hs:k.signed=false)(hx:ev n f x=.int k (a.toNat:Int))(hy:ev n f y=.int ky (c:Int))(h:O P n ops rest N Z (upd f d (.int k ((a<<<c).toNat:Int))) w):
 O P n ops (ZO d (.binOp .shl t x y t') ty pos after::rest) N Z f w:=
 O.val rfl rfl (by
  have h1:¬((c:Int)<0):=by omega
  have e:k.wrap ((a.toNat:Int)*2^(min ((c:Int).toNat) k.bits))=((a<<<c).toNat:Int):=by
   rw[wrap_u hk hs,hk]
   congr 1
   rw[BitVec.ofInt_mul,ofInt_nat];have e2:BitVec.ofInt m ((2:Int)^(min c m))=BitVec.ofNat m (2^(min c m)):=by
    rw[<-BitVec.ofInt_natCast];norm_cast
   rw[Int.toNat_natCast,e2,BitVec.toNat_mul,BitVec.toNat_ofNat,BitVec.toNat_shiftLeft,Nat.shiftLeft_eq,Nat.mul_mod_mod]
   by_cases hc:c<=m
   ·rw [Nat.min_eq_left hc]
   ·have hc':m<=c:=by omega
    rw[Nat.min_eq_right hc',Nat.mul_mod_left];obtain ⟨q,rfl⟩:=Nat.exists_eq_add_of_le hc';rw[Nat.pow_add,<-Nat.mul_assoc,Nat.mul_right_comm,Nat.mul_mod_left]
  simp only[execOp,hx,hy,eqGuard,binOp,Op.shift,if_neg h1,e]
  rfl) h
theorem O.shrU {ky:IntKind}{c:Nat}(hk:k.bits=m)(hs:k.signed=false)(hx:ev n f x=.int k (a.toNat:Int))(hy:ev n f y=.int ky (c:Int))(h:O P n ops rest N Z (upd f d (.int k ((a>>>c).toNat:Int))) w):
 O P n ops (ZO d (.binOp .shr t x y t') ty pos after::rest) N Z f w:=
 O.val rfl rfl (by
  have h1:¬((c:Int)<0):=by omega
  have e:((a.toNat:Int).fdiv (2^(min ((c:Int).toNat) k.bits)))=((a>>>c).toNat:Int):=by
   have _:=hs;rw[hk,Int.toNat_natCast,BitVec.toNat_ushiftRight,Nat.shiftRight_eq_div_pow];have e2:((2:Int)^(min c m))=((2^(min c m):Nat):Int):=by norm_cast
   rw[e2,Int.fdiv_eq_ediv_of_nonneg _ (Int.natCast_nonneg _),<-Int.natCast_ediv]
   by_cases hc:c<=m
   ·rw [Nat.min_eq_left hc]
   ·have hc':m<=c:=by omega
    have hlt:=a.isLt;rw[Nat.min_eq_right hc',Nat.div_eq_of_lt hlt,Nat.div_eq_of_lt];exact Nat.lt_of_lt_of_le hlt (Nat.pow_le_pow_right (by decide) hc')
  simp only[execOp,hx,hy,eqGuard,binOp,Op.shift,if_neg h1,e]
  rfl) h
theorem O.negU (hk:k.bits=m)(hs:k.signed=false)(hx:ev n f x=.int k (a.toNat:Int))(h:O P n ops rest N Z (upd f d (.int k ((-a).toNat:Int))) w):
 O P n ops (ZO d (.unOp .neg t x) ty pos after::rest) N Z f w:=
 O.val rfl rfl (by
  have e:k.wrap (0-(a.toNat:Int))=((-a).toNat:Int):=by
   rw[wrap_u hk hs,ofInt_sub',ofInt_nat]
   simp
  simp only[execOp,hx,Op.unary,Op.intArith,e]
  rfl) h
theorem O.lssU (hx:ev n f x=.int k (a.toNat:Int))(hy:ev n f y=.int k (b.toNat:Int))(h:O P n ops rest N Z (upd f d (.bool (decide (a<b)))) w):
 O P n ops (ZO d (.binOp .lss t x y t') ty pos after::rest) N Z f w:=
 O.val rfl rfl (by simp[execOp,hx,hy,eqGuard,binOp,Op.intCmp,BitVec.lt_def]) h
theorem O.leqU (hx:ev n f x=.int k (a.toNat:Int))(hy:ev n f y=.int k (b.toNat:Int))(h:O P n ops rest N Z (upd f d (.bool (decide (a<=b)))) w):
 O P n ops (ZO d (.binOp .leq t x y t') ty pos after::rest) N Z f w:=
 O.val rfl rfl (by simp[execOp,hx,hy,eqGuard,binOp,Op.intCmp,BitVec.le_def]) h
theorem O.gtrU (hx:ev n f x=.int k (a.toNat:Int))(hy:ev n f y=.int k (b.toNat:Int))(h:O P n ops rest N Z (upd f d (.bool (decide (b<a)))) w):
 O P n ops (ZO d (.binOp .gtr t x y t') ty pos after::rest) N Z f w:=
 O.val rfl rfl (by simp[execOp,hx,hy,eqGuard,binOp,Op.intCmp,BitVec.lt_def]) h
theorem O.geqU (hx:ev n f x=.int k (a.toNat:Int))(hy:ev n f y=.int k (b.toNat:Int))(h:O P n ops rest N Z (upd f d (.bool (decide (b<=a)))) w):
 O P n ops (ZO d (.binOp .geq t x y t') ty pos after::rest) N Z f w:=
 O.val rfl rfl (by simp[execOp,hx,hy,eqGuard,binOp,Op.intCmp,BitVec.le_def]) h
theorem O.eqlU (hx:ev n f x=.int k (a.toNat:Int))(hy:ev n f y=.int k (b.toNat:Int))(h:O P n ops rest N Z (upd f d (.bool (decide (a=b)))) w):
 O P n ops (ZO d (.binOp .eql t x y t') ty pos after::rest) N Z f w:=
 O.val rfl rfl (by
  have e:((a.toNat:Int)==(b.toNat:Int))=decide (a=b):=by
   by_cases h:a=b
   ·simp [h]
   ·have h2:a.toNat≠b.toNat:=λh'=>h (BitVec.eq_of_toNat_eq h')
    simp[h];omega
  simp[execOp,hx,hy,eqGuard,binOp,Op.intCmp,e]) h
theorem O.neqU (hx:ev n f x=.int k (a.toNat:Int))(hy:ev n f y=.int k (b.toNat:Int))(h:O P n ops rest N Z (upd f d (.bool (decide (a≠b)))) w):
 O P n ops (ZO d (.binOp .neq t x y t') ty pos after::rest) N Z f w:=
 O.val rfl rfl (by
  have e:((a.toNat:Int) !=(b.toNat:Int))=decide (a≠b):=by
   by_cases h:a=b
   ·simp [h]
   ·have h2:a.toNat≠b.toNat:=λh'=>h (BitVec.eq_of_toNat_eq h')
    simp[h];omega
  simp[execOp,hx,hy,eqGuard,binOp,Op.intCmp,e]) h
end
section
variable {k k':IntKind}{m m':Nat}
theorem O.convUU {a:BitVec m}(ht:P.underlying t=some (.int k))(ht':P.underlying t'=some (.int k'))(hk':k'.bits=m')(hs':k'.signed=false)(hx:ev n f x=.int k (a.toNat:Int))
 (h:O P n ops rest N Z (upd f d (.int k' ((a.setWidth m').toNat:Int))) w):
 O P n ops (ZO d (.convert t t' x) ty pos after::rest) N Z f w:=
 O.val rfl rfl (by
  have e:k'.wrap (a.toNat:Int)=((a.setWidth m').toNat:Int):=by
   rw[wrap_u hk' hs',BitVec.ofInt_natCast]
   simp
  simp[execOp,hx,convert,run_underlying ht,run_underlying ht',Conv.intToInt,e]) h
theorem O.convUI {a:BitVec m}(ht:P.underlying t=some (.int k))(ht':P.underlying t'=some (.int .i64))(hx:ev n f x=.int k (a.toNat:Int))(hm:m<64)
 (h:O P n ops rest N Z (upd f d (i64 (a.toNat:Int))) w):
 O P n ops (ZO d (.convert t t' x) ty pos after::rest) N Z f w:=
 O.val rfl rfl (by
  have e:IntKind.i64.wrap (a.toNat:Int)=(a.toNat:Int):=by
   apply wrap_in
   have h1:=a.isLt;have h2:2^m<=2^63:=Nat.pow_le_pow_right (by decide) (by omega);unfold InI;omega
  simp[execOp,hx,convert,run_underlying ht,run_underlying ht',Conv.intToInt,e]) h
theorem O.convU64I {a:BitVec 64}(ht:P.underlying t=some (.int .u64))(ht':P.underlying t'=some (.int .i64))(hx:ev n f x=.int .u64 (a.toNat:Int))
 (h:O P n ops rest N Z (upd f d (i64 a.toInt)) w):
 O P n ops (ZO d (.convert t t' x) ty pos after::rest) N Z f w:=
 O.val rfl rfl (by
  have e:IntKind.i64.wrap (a.toNat:Int)=a.toInt:=by
   have h1:=a.isLt;have e:IntKind.i64.wrap (a.toNat:Int)=if (true&&decide ((a.toNat:Int)%18446744073709551616≥9223372036854775808))=true then (a.toNat:Int)%18446744073709551616-18446744073709551616 else (a.toNat:Int)%18446744073709551616:=rfl;have e64':((2^64:Nat):Int)=18446744073709551616:=by decide
   rw[e,BitVec.toInt_eq_toNat_cond,e64',Int.emod_eq_of_lt (by omega) (by omega)]
   by_cases h2:2*a.toNat<2^64
   ·rw [if_pos h2,if_neg (by simp;omega)]
   ·rw [if_neg h2,if_pos (by simp;omega)]
  simp[execOp,hx,convert,run_underlying ht,run_underlying ht',Conv.intToInt,e]) h
theorem O.convIU {a:Int}(ht:P.underlying t=some (.int .i64))(ht':P.underlying t'=some (.int k'))(hk':k'.bits=m')(hs':k'.signed=false)(hx:ev n f x=i64 a)
 (h:O P n ops rest N Z (upd f d (.int k' ((BitVec.ofInt m' a).toNat:Int))) w):
 O P n ops (ZO d (.convert t t' x) ty pos after::rest) N Z f w:=
 O.val rfl rfl (by
  simp[execOp,hx,convert,run_underlying ht,run_underlying ht',Conv.intToInt,wrap_u hk' hs']) h
end
theorem run_neq_bool {a b:Bool}(ht:P.underlying t=some .bool):(binOp .neq t (.bool a) (.bool b)).run P w=.ok (.bool (decide (a≠b))) w:=by
 have e:(!(a==b))=decide (a≠b):=by cases a<;>cases b<;>rfl
 have h1:(Op.equal t (.bool a) (.bool b)).run P w=.ok (a==b) w:=run_equalIn_bool w 9999 t a b ht;have h2:binOp .neq t (.bool a) (.bool b)=(do pure (.bool (!(<-Op.equal t (.bool a) (.bool b))))):=rfl;rw[h2,Sem.run_bind,h1];simp only[Result.andThen_ok,e]
 rfl
theorem run_bin {op:BinOp}{a b v:Value}(hx:ev n f x=a)(hy:ev n f y=b)(hg:(eqGuard op t x y a b).run P w=.ok () w)(h:(binOp op t a b).run P w=.ok v w)(dst:Option Tmp)(g:Option (Nat×Bool)):
 (execOp (ev n f) {dst:=dst,op:=.binOp op t x y t',type:=ty,pos:=pos,after:=after,guard:=g}).run P w=.ok (.value v) w:=by
 simp only[execOp,hx,hy,Sem.run_bind,hg,Result.andThen_ok,h]
 rfl
theorem O.neqB {a b:Bool}(ht:P.underlying t=some .bool)(hx:ev n f x=.bool a)(hy:ev n f y=.bool b)(h:O P n ops rest N Z (upd f d (.bool (decide (a≠b)))) w):
 O P n ops (ZO d (.binOp .neq t x y t') ty pos after::rest) N Z f w:=
 O.val rfl rfl (run_bin hx hy rfl (run_neq_bool ht) _ _) h
theorem toList_mk (l:List UInt8):(ByteArray.mk l.toArray).toList=l:=ByteArray.toList_mk l
section
variable {a b:List UInt8}
theorem O.eqlS (hx:ev n f x=str a)(hy:ev n f y=str b)(h:O P n ops rest N Z (upd f d (.bool (decide (a=b)))) w):
 O P n ops (ZO d (.binOp .eql t x y t') ty pos after::rest) N Z f w:=
 O.val rfl rfl (by
  have e:(a==b)=decide (a=b):=by by_cases h:a=b<;>simp[h]
  simp only[execOp,hx,hy,str,eqGuard,binOp,Op.stringOp,toList_mk,e]
  simp) h
theorem O.neqS (hx:ev n f x=str a)(hy:ev n f y=str b)(h:O P n ops rest N Z (upd f d (.bool (decide (a≠b)))) w):
 O P n ops (ZO d (.binOp .neq t x y t') ty pos after::rest) N Z f w:=
 O.val rfl rfl (by
  have e:(!(a==b))=decide (a≠b):=by by_cases h:a=b<;>simp[h]
  simp only[execOp,hx,hy,str,eqGuard,binOp,Op.stringOp,toList_mk,e]
  simp) h
theorem O.addS (hx:ev n f x=str a)(hy:ev n f y=str b)(hb:a.length+b.length<=9223372036854775807)(h:O P n ops rest N Z (upd f d (str (a++b))) w):
 O P n ops (ZO d (.binOp .add t x y t') ty pos after::rest) N Z f w:=
 O.val rfl rfl (by
  have h1:¬(IntKind.i64.max<((ByteArray.size ⟨a.toArray⟩+ByteArray.size ⟨b.toArray⟩:Nat):Int)):=by
   have e:IntKind.i64.max=9223372036854775807:=by decide
   have ha:ByteArray.size ⟨a.toArray⟩=a.length:=by simp[ByteArray.size]
   have hb':ByteArray.size ⟨b.toArray⟩=b.length:=by simp[ByteArray.size]
   rw[e,ha,hb'];omega
  have e2:(ByteArray.mk a.toArray++ByteArray.mk b.toArray)=ByteArray.mk (a++b).toArray:=by
   apply ByteArray.ext
   simp
  simp only[execOp,hx,hy,str,eqGuard,binOp,Op.stringOp,gt_iff_lt,h1,if_false,e2]
  simp) h
theorem O.lenS (ht:P.underlying t=some .string)(hx:ev n f x=str a)(h:O P n ops rest N Z (upd f d (i64 a.length)) w):
 O P n ops (ZO d (.call {callee:=.builtin .len,args:=[x].toArray,argTypes:=[t].toArray}) ty pos after::rest) N Z f w:=
 O.val rfl rfl (by
  have e:ByteArray.size ⟨a.toArray⟩=a.length:=by simp[ByteArray.size]
  simp[execOp,resolve,invoke,builtin,hx,Builtin.len_,run_underlying ht,str,goInt,e]) h
theorem O.lenL {l:Option Addr}{k c:Nat}{e:TypeId}(ht:P.underlying t=some (.slice e))(hx:ev n f x=.slice l k c)(h:O P n ops rest N Z (upd f d (i64 k)) w):
 O P n ops (ZO d (.call {callee:=.builtin .len,args:=[x].toArray,argTypes:=[t].toArray}) ty pos after::rest) N Z f w:=
 O.val rfl rfl (by
  simp[execOp,resolve,invoke,builtin,hx,Builtin.len_,run_underlying ht,goInt]) h
theorem O.indexS {k:IntKind}{i:Int}(ht:P.underlying t=some .string)(hx:ev n f x=str a)(hy:ev n f y=.int k i)(hi:0<=i∧i<a.length)(h:O P n ops rest N Z (upd f d (.int .u8 ((a.getD i.toNat 0).toNat:Int))) w):
 O P n ops (ZO d (.index t x y) ty pos after::rest) N Z f w:=
 O.val rfl rfl (by
  have hlt:i.toNat<a.length:=by omega
  have h1:(ByteArray.mk a.toArray)[i.toNat]? =some (a.getD i.toNat 0):=by
   rw[getElem?_pos (ByteArray.mk a.toArray) i.toNat (show i.toNat<(ByteArray.mk a.toArray).size by simpa[ByteArray.size] using hlt)];rw[List.getD_eq_getElem?_getD,List.getElem?_eq_getElem hlt]
   rfl
  have h2:(Instr.index t (.string ⟨a.toArray⟩) (.int k i)).run P w=.ok (.int .u8 ((a.getD i.toNat 0).toNat:Int)) w:=by
   unfold Instr.index;rw[Sem.run_bind];show Result.andThen (Result.ok (k,i) w) _=_;rw[Result.andThen_ok,Sem.run_bind,run_underlying ht,Result.andThen_ok];simp only[if_pos hi.1,h1]
   rfl
  have h3:execOp (ev n f) (ZO d (.index t x y) ty pos after)=(do pure (.value (<-Instr.index t (ev n f x) (ev n f y)))):=rfl;rw[h3,Sem.run_bind,hx,hy];show Result.andThen ((Instr.index t (.string ⟨a.toArray⟩) (.int k i)).run P w) _=_;rw[h2]
  rfl) h
theorem extract_mk (a:List UInt8)(l h:Nat):(ByteArray.mk a.toArray).extract l h=ByteArray.mk ((a.take h).drop l).toArray:=by
 apply ByteArray.ext
 simp[ByteArray.data_extract,List.drop_take]
end
end
end Go.Pn
end
section
namespace Go.Pn
open Go.RowKit
structure Ext (M:Nat->Prop) (w w':World):Prop where
 os:w'.os=w.os
 tape:w'.tape=w.tape
 output:w'.output=w.output
 size:w.heap.size<=w'.heap.size
 block:∀k,k<w.heap.size->¬M k->w'.heap[k]? =w.heap[k]?
abbrev Le (w w':World):Prop:=Ext (λ_=>False) w w'
theorem Ext.refl (M:Nat->Prop)(w:World):Ext M w w:=⟨rfl,rfl,rfl,Nat.le_refl _,λ_ _ _=>rfl⟩
theorem Ext.L:type_of%@Ext.refl:=@Ext.refl
theorem Le.refl (w:World):Le w w:=Ext.L _ w
theorem leR {w:World}:Le w w:=Le.refl w
theorem Ext.trans {M:Nat->Prop}{a b c:World}(h:Ext M a b)(k:Ext M b c):Ext M a c:=
 ⟨k.os.trans h.os,k.tape.trans h.tape,k.output.trans h.output,Nat.le_trans h.size k.size,λi hi hm=>(k.block i (Nat.lt_of_lt_of_le hi h.size) hm).trans (h.block i hi hm)⟩
theorem Ext.T:type_of%@Ext.trans:=@Ext.trans
theorem Ext.mono {M M':Nat->Prop}{a b:World}(h:Ext M a b)(hm:∀k,k<a.heap.size->M k->M' k):Ext M' a b:=
 ⟨h.os,h.tape,h.output,h.size,λi hi hn=>h.block i hi λhk=>hn (hm i hi hk)⟩
theorem Ext.new {M M':Nat->Prop}{a b c:World}(h:Ext M a b)(k:Ext M' b c)(hm:∀i,i<a.heap.size->M' i->M i):Ext M a c:=
 ⟨k.os.trans h.os,k.tape.trans h.tape,k.output.trans h.output,Nat.le_trans h.size k.size,λi hi hn=>(k.block i (Nat.lt_of_lt_of_le hi h.size) λhk=>hn (hm i hi hk)).trans (h.block i hi hn)⟩
theorem Ext.nt {M':Nat->Prop}{a b c:World}(h:Ext (λ_=>True) a b)(k:Ext M' b c):Ext (λ_=>True) a c:=Ext.new h k λ_ _ _=>trivial
theorem Ext.nw {M M':Nat->Prop}{a b c:World}(h:Ext M a b)(k:Ext M' b c)(hm:∀i,i<a.heap.size->M' i->M i:=by intro i hi hk;first|exact hk.elim|((try dsimp only at hk);(try dsimp only);omega)):Ext M a c:=Ext.new h k hm
theorem Ext.nS {M' S:Nat->Prop}{b0:Nat}{a b c:World}(h:Ext (λj=>j=b0∨S j) a b)(k:Ext M' b c)(hm:∀i,i<a.heap.size->M' i->i=b0∨S i:=by intro i hi hk;first|exact hk.elim|exact .inl hk|exact .inr hk|exact hk):Ext (λj=>j=b0∨S j) a c:=Ext.new h k hm
theorem Ext.nT {M M':Nat->Prop}{a b c:World}(h:Ext M a b)(k:Ext M' b c)(hm:∀i,i<a.heap.size->M' i->M i:=by intro i hi hk;first|exact hk.elim|exact hk):Ext M a c:=Ext.new h k hm
theorem Ext.nr {M M':Nat->Prop}{a b c:World}(h:Ext M a b)(k:Ext M' b c)(hm:∀i,i<a.heap.size->M' i->M i:=by rintro i hi rfl;omega):Ext M a c:=Ext.new h k hm
theorem Le.trans {a b c:World}(h:Le a b)(k:Le b c):Le a c:=Ext.T h k
theorem Le.below {a b:World}(h:Le a b):Below a.heap.size a b:=⟨h.os,h.tape,h.output,h.size,λi hi=>h.block i hi not_false⟩
theorem Le.of_below {B:Nat}{a b:World}(h:Below B a b)(hB:a.heap.size<=B):Le a b:=⟨h.os,h.tape,h.output,h.size,λi hi _=>h.block i (Nat.lt_of_lt_of_le hi hB)⟩
theorem Le.drew (w:World):Le w w.drew:=⟨rfl,rfl,rfl,Nat.le_refl _,λ_ _ _=>rfl⟩
theorem Le.drewN (w:World)(n:Nat):Le w {w with drawn:=w.drawn+n}:=⟨rfl,rfl,rfl,Nat.le_refl _,λ_ _ _=>rfl⟩
theorem Le.alloc (w:World)(o:Obj):Le w (w.alloc o):=⟨rfl,rfl,rfl,by simp,λk hk _=>Below.heap_alloc _ _ _ hk⟩
theorem Ext.set (w:World)(a:Addr)(v:Value):Ext (λk=>k=a.block) w (w.setCell a v):=
 ⟨rfl,rfl,rfl,by simp,λk _ hn=>Below.heap_setCell _ _ _ _ hn⟩
theorem Ext.lt {M:Nat->Prop}{a b:World}(h:Ext M a b){k:Nat}(hk:k<a.heap.size):k<b.heap.size:=Nat.lt_of_lt_of_le hk h.size
def CellIs (w:World)(b:Nat)(v:Value):Prop:=w.cell? ⟨b,0,none⟩=some v
theorem CellIs.lt {w:World}{b:Nat}{v:Value}(h:CellIs w b v):b<w.heap.size:=World.block_lt_of_cell? w _ h
theorem CellIs.kM {M:Nat->Prop}{w w':World}{b:Nat}{v:Value}(h:CellIs w b v)(e:Ext M w w')(hM:¬M b):CellIs w' b v:=by
 have:=e.block b h.lt hM;unfold CellIs at h ⊢;rw[<-h];simp only[World.cell?,this]
theorem CellIs.kO {M:Nat->Prop}{w w':World}{b:Nat}{v:Value}(h:CellIs w b v)(e:Ext M w w')(hM:¬M b:=by intro h;(try dsimp only at h);omega):CellIs w' b v:=CellIs.kM h e hM
theorem CellIs.L {w w':World}{b:Nat}{v:Value}(h:CellIs w b v)(e:Le w w'):CellIs w' b v:=h.kM e not_false
structure Enc (α:Type) where
 sz:Nat
 rep:World->(Nat->Prop)->List Value->α->Prop
 len:∀{w F cs x},rep w F cs x->cs.length=sz
 one:∀{w F cs x},rep w F cs x->∀c∈cs,c.oneCell'=true
 ext:∀{w w' F cs x},rep w F cs x->(∀k,F k->k<w.heap.size->w'.heap[k]? =w.heap[k]?)->rep w' F cs x
 weak:∀{w F F' cs x},rep w F cs x->(∀k,F k->F' k)->rep w F' cs x
def Enc.flat {α:Type}(sz:Nat)(e:α->List Value)(hl:∀x,(e x).length=sz)(ho:∀x,∀c∈e x,c.oneCell'=true):Enc α where
 sz:=sz
 rep:=λ_ _ cs x=>cs=e x
 len:=by rintro w F cs x rfl;exact hl x
 one:=by rintro w F cs x rfl;exact ho x
 ext:=λh _=>h
 weak:=λh _=>h
def At {α:Type}(E:Enc α)(w:World)(F:Nat->Prop)(a:Addr)(x:α):Prop:=
 ∃b off cur ty fr,a=⟨b,off,none⟩∧F b∧w.heap[b]? =some (.cells cur ty fr)∧off+E.sz<=cur.size∧E.rep w F ((cur.toList.drop off).take E.sz) x
def Sl {α:Type}(E:Enc α)(w:World)(F:Nat->Prop)(v:Value)(xs:List α):Prop:=
 xs.length<=maxLen∧
 ((∃a,v=.slice a 0 0∧xs=[])∨
  ∃b off cap cur ty fr,v=.slice (some ⟨b,off,none⟩) xs.length cap∧F b∧w.heap[b]? =some (.cells cur ty fr)∧xs.length<=cap∧cap<=maxLen∧(0<xs.length->off+cap*E.sz<=cur.size)∧
   ∀i (h:i<xs.length),E.rep w F ((cur.toList.drop (off+i*E.sz)).take E.sz) xs[i])
section
variable {α:Type}{E:Enc α}{w w':World}{F F':Nat->Prop}{v:Value}{xs:List α}{a:Addr}{x:α}
theorem lt_of_some {w:World}{b:Nat}{o:Obj}(h:w.heap[b]? =some o):b<w.heap.size:=(Array.getElem?_eq_some_iff.1 h).1
theorem At.ext (h:At E w F a x)(hw:∀k,F k->k<w.heap.size->w'.heap[k]? =w.heap[k]?):At E w' F a x:=by
 obtain ⟨b,off,cur,ty,fr,rfl,hF,hb,hs,hr⟩:=h;exact ⟨b,off,cur,ty,fr,rfl,hF,(hw b hF (lt_of_some hb)).trans hb,hs,E.ext hr hw⟩
theorem At.L (h:At E w F a x)(e:Le w w'):At E w' F a x:=h.ext λk _ hk=>e.block k hk not_false
theorem At.kM {M:Nat->Prop}(h:At E w F a x)(e:Ext M w w')(hM:∀k,F k->¬M k):At E w' F a x:=h.ext λk hF hk=>e.block k hk (hM k hF)
theorem At.keepA {M:Nat->Prop}(h:At E w F a x)(e:Ext M w w')(hM:∀k,F k->¬M k:=by intro k hk h;first|(have q:=hF k hk;(try dsimp only at h);omega)|(have q:=hF2 k hk;(try dsimp only at h);omega)|(have q:=hFb k hk;(try dsimp only at h);omega)|((try dsimp only at hk);(try dsimp only at h);omega)):At E w' F a x:=At.kM h e hM
theorem At.weak (h:At E w F a x)(hF':∀k,F k->F' k):At E w F' a x:=by
 obtain ⟨b,off,cur,ty,fr,rfl,hF,hb,hs,hr⟩:=h;exact ⟨b,off,cur,ty,fr,rfl,hF' _ hF,hb,hs,E.weak hr hF'⟩
theorem At.weakA (h:At E w F a x)(hF':∀k,F k->F' k:=by intro q hq;(try dsimp only at hq);(try dsimp only);omega):At E w F' a x:=At.weak h hF'
theorem Sl.ext (h:Sl E w F v xs)(hw:∀k,F k->k<w.heap.size->w'.heap[k]? =w.heap[k]?):Sl E w' F v xs:=by
 refine ⟨h.1,?_⟩;rcases h.2 with h|⟨b,off,cap,cur,ty,fr,rfl,hF,hb,h1,h2,h3,hr⟩
 ·exact .inl h
 ·exact .inr ⟨b,off,cap,cur,ty,fr,rfl,hF,(hw b hF (lt_of_some hb)).trans hb,h1,h2,h3,λi hi=>E.ext (hr i hi) hw⟩
theorem Sl.weak (h:Sl E w F v xs)(hF':∀k,F k->F' k):Sl E w F' v xs:=by
 refine ⟨h.1,?_⟩;rcases h.2 with h|⟨b,off,cap,cur,ty,fr,rfl,hF,hb,h1,h2,h3,hr⟩
 ·exact .inl h
 ·exact .inr ⟨b,off,cap,cur,ty,fr,rfl,hF' _ hF,hb,h1,h2,h3,λi hi=>E.weak (hr i hi) hF'⟩
theorem Sl.weakA (h:Sl E w F v xs)(hF':∀k,F k->F' k:=by intro q hq;(try dsimp only at hq);(try dsimp only);omega):Sl E w F' v xs:=Sl.weak h hF'
theorem Sl.L (h:Sl E w F v xs)(e:Le w w'):Sl E w' F v xs:=h.ext λk _ hk=>e.block k hk not_false
theorem Sl.kM {M:Nat->Prop}(h:Sl E w F v xs)(e:Ext M w w')(hM:∀k,F k->¬M k):Sl E w' F v xs:=h.ext λk hF hk=>e.block k hk (hM k hF)
theorem Sl.keepA {M:Nat->Prop}(h:Sl E w F v xs)(e:Ext M w w')(hM:∀k,F k->¬M k:=by intro k hk h;first|(have q:=hF k hk;(try dsimp only at h);omega)|(have q:=hF2 k hk;(try dsimp only at h);omega)|(have q:=hFb k hk;(try dsimp only at h);omega)|((try dsimp only at hk);(try dsimp only at h);omega)):Sl E w' F v xs:=Sl.kM h e hM
theorem Sl.le (h:Sl E w F v xs):xs.length<=9223372036854775807:=by have:=h.1;unfold maxLen at this;omega
theorem Sl.nil (E:Enc α)(w:World)(F:Nat->Prop):Sl E w F (.slice none 0 0) []:=⟨by simp,.inl ⟨_,rfl,rfl⟩⟩
theorem Sl.val (h:Sl E w F v xs):∃l cap,v=.slice l xs.length cap∧xs.length<=cap:=by
 rcases h.2 with ⟨a0,rfl,rfl⟩|⟨b,off,cap,cur,ty,fr,rfl,_,_,h1,_⟩
 ·exact ⟨_,_,rfl,Nat.le_refl _⟩
 ·exact ⟨_,_,rfl,h1⟩
theorem Addr.add_none (b off k:Nat):(⟨b,off,none⟩:Addr).add k=⟨b,off+k,none⟩:=by
 unfold Addr.add;split<;>simp_all
theorem Sl.elem (h:Sl E w F v xs){i:Nat}(hi:i<xs.length):∃b off cap,v=.slice (some ⟨b,off,none⟩) xs.length cap∧At E w F ⟨b,off+i*E.sz,none⟩ xs[i]:=by
 rcases h.2 with ⟨a0,rfl,rfl⟩|⟨b,off,cap,cur,ty,fr,rfl,hF,hb,h1,_,h3,hr⟩
 ·simp at hi
 ·refine ⟨b,off,cap,rfl,b,off+i*E.sz,cur,ty,fr,rfl,hF,hb,?_,hr i hi⟩
  have:(i+1)*E.sz<=cap*E.sz:=Nat.mul_le_mul_right _ (by omega);rw[Nat.add_mul,Nat.one_mul] at this;have h3:=h3 (by omega)
  omega
theorem At.cell1 (h:At E w F a x)(h1:E.sz=1):∃v,w.cell? a=some v∧E.rep w F [v] x:=by
 obtain ⟨b,off,cur,ty,fr,rfl,hF,hb,hs,hr⟩:=h;rw[h1] at hs hr;have hlt:off<cur.size:=by omega
 refine ⟨cur[off],?_,?_⟩
 ·simp [World.cell?,hb,hlt]
 ·have:(cur.toList.drop off).take 1=[cur[off]]:=by
   rw[List.drop_eq_getElem_cons (by simpa using hlt)]
   simp
  rwa [this] at hr
end
section
variable
 {d:Nat}{x y:Operand}{t t' ty:TypeId}{pos:String}{after:Array Edge}{α:Type}{E:Enc α}{F:Nat->Prop}
theorem run_sizeOf {e:TypeId}{i:TypeInfo}(hi:P.info? e=some i):(sizeOf e).run P w=.ok i.size w:=by
 simp[sizeOf,typeInfo,hi]
theorem O.idx {e:TypeId}{i:Int}{s:Nat}{v:Value}{xs:List α}(ht:P.underlying t=some (.slice e))(hsz:∀w,(sizeOf e).run P w=.ok s w)(hs:E.sz=s)(hx:ev n f x=v)(hv:Sl E w F v xs)
 (hy:ev n f y=i64 i)(hi:0<=i∧i<xs.length)(h:∀a,At E w F a (xs[i.toNat]'(by omega))->O P n ops rest N Z (upd f d (.pointer (some a))) w):
 O P n ops (ZO d (.indexAddr t x y) ty pos after::rest) N Z f w:=by
 obtain ⟨b,off,cap,hval,hat⟩:=hv.elem (i:=i.toNat) (by omega);refine O.val rfl rfl ?_ (h _ hat);have h3:execOp (ev n f) (ZO d (.indexAddr t x y) ty pos after)=(do pure (.value (<-Instr.indexAt t (ev n f x) (ev n f y)))):=rfl;rw[h3,Sem.run_bind,hx,hy,hval];have h4:(Instr.indexAt t (.slice (some ⟨b,off,none⟩) xs.length cap) (i64 i)).run P w=.ok (.pointer (some ⟨b,off+i.toNat*E.sz,none⟩)) w:=by
  simp[Instr.indexAt,asIntOf,run_underlying ht,hi.1,hi.2,hsz,Addr.add_none,hs]
 rw[h4]
 rfl
theorem O.load1 {a:Addr}{z:α}(hag:∀w,(isAgg t).run P w=.ok false w)(h1:E.sz=1)(hx:ev n f x=.pointer (some a))(ha:At E w F a z)
 (h:∀v,E.rep w F [v] z->O P n ops rest N Z (upd f d v) w):
 O P n ops (ZO d (.load t x) ty pos after::rest) N Z f w:=by
 obtain ⟨v,hc,hr⟩:=ha.cell1 h1;refine O.val rfl rfl ?_ (h v hr);have h3:execOp (ev n f) (ZO d (.load t x) ty pos after)=(do pure (.value (<-Instr.loadAt t (ev n f x)))):=rfl;rw[h3,Sem.run_bind,hx];have h4:(Instr.loadAt t (.pointer (some a))).run P w=.ok v w:=by
  simp[Instr.loadAt,Instr.sureAddr,loadVar,hag,hc]
 rw[h4]
 rfl
theorem O.len {e:TypeId}{v:Value}{xs:List α}(ht:P.underlying t=some (.slice e))(hx:ev n f x=v)(hv:Sl E w F v xs)(h:O P n ops rest N Z (upd f d (i64 xs.length)) w):
 O P n ops (ZO d (.call {callee:=.builtin .len,args:=[x].toArray,argTypes:=[t].toArray}) ty pos after::rest) N Z f w:=by
 obtain ⟨l,cap,hval,_⟩:=hv.val;exact O.lenL ht (hx.trans hval) h
end
def byteE:Enc UInt8:=Enc.flat 1 (λx=>[.int .u8 (x.toNat:Int)]) (λ_=>rfl) (by simp[Value.oneCell'])
theorem byteE.inv {w:World}{F:Nat->Prop}{v:Value}{x:UInt8}(h:byteE.rep w F [v] x):v=.int .u8 (x.toNat:Int):=by
 have:[v]=[Value.int .u8 (x.toNat:Int)]:=h
 simpa using this
section
variable
 {d:Nat}{x y:Operand}{t t' ty:TypeId}{pos:String}{after:Array Edge}{F:Nat->Prop}
theorem O.loadB {a:Addr}{z:UInt8}(hag:∀w,(isAgg t).run P w=.ok false w)(hx:ev n f x=.pointer (some a))(ha:At byteE w F a z)
 (h:O P n ops rest N Z (upd f d (.int .u8 (z.toBitVec.toNat:Int))) w):
 O P n ops (ZO d (.load t x) ty pos after::rest) N Z f w:=
 O.load1 hag rfl hx ha λv hv=>by rw[byteE.inv hv];exact h
end
end Go.Pn
end
section
namespace Go.Pn
open Go.RowKit
def Own0 (w:World)(b:Nat)(ty:TypeId)(cs:List Value):Prop:=w.heap[b]? =some (.cells cs.toArray ty (0,0))
def Own (w:World)(b:Nat)(ty:TypeId)(cs:List Value):Prop:=∃fr:Nat×Nat,w.heap[b]? =some (.cells cs.toArray ty fr)∧(fr=(0,0)∨fr=(cs.length,cs.length+1))
section
variable {w w':World}{b:Nat}{ty:TypeId}{cs:List Value}
theorem Own0.own (h:Own0 w b ty cs):Own w b ty cs:=⟨_,h,.inl rfl⟩
theorem Own0.lt (h:Own0 w b ty cs):b<w.heap.size:=lt_of_some h
theorem Own.lt (h:Own w b ty cs):b<w.heap.size:=by obtain ⟨fr,h,_⟩:=h;exact lt_of_some h
theorem Own.kM {M:Nat->Prop}(h:Own w b ty cs)(e:Ext M w w')(hM:¬M b):Own w' b ty cs:=by
 obtain ⟨fr,h,h2⟩:=h;exact ⟨fr,(e.block b (lt_of_some h) hM).trans h,h2⟩
theorem Own.kO {M:Nat->Prop}(h:Own w b ty cs)(e:Ext M w w')(hM:¬M b:=by intro h;(try dsimp only at h);omega):Own w' b ty cs:=h.kM e hM
theorem Own.L (h:Own w b ty cs)(e:Le w w'):Own w' b ty cs:=h.kM e not_false
theorem Own.cell (h:Own w b ty cs){i:Nat}{v:Value}(hi:cs[i]? =some v):w.cell? ⟨b,i,none⟩=some v:=by
 obtain ⟨fr,h,_⟩:=h;unfold World.cell?;rw[h]
 simpa using hi
theorem Own.free (h:Own w b ty cs){i:Nat}(hi:i<cs.length):w.frozen? ⟨b,i,none⟩=false:=by
 obtain ⟨fr,h,h2⟩:=h;unfold World.frozen?;rw[h];rcases h2 with rfl|rfl
 ·simp
 ·simp;omega
theorem heap_set (w:World)(b i:Nat)(v:Value){cs:List Value}{ty:TypeId}{fr:Nat×Nat}(h:w.heap[b]? =some (.cells cs.toArray ty fr)):(w.setCell ⟨b,i,none⟩ v).heap[b]? =some (.cells (cs.set i v).toArray ty fr):=by
 unfold World.setCell;rw[Array.getElem?_modify,if_pos rfl,h]
 simp
theorem Own.set (h:Own w b ty cs)(i:Nat)(v:Value):Own (w.setCell ⟨b,i,none⟩ v) b ty (cs.set i v):=by
 obtain ⟨fr,h,h2⟩:=h;exact ⟨fr,heap_set w b i v h,by simpa using h2⟩
theorem Own0.new (w:World)(ty:TypeId)(cs:List Value):Own0 (w.alloc (.cells cs.toArray ty)) w.heap.size ty cs:=by
 unfold Own0 World.alloc
 simp
end
structure Flat (α:Type) where
 sz:Nat
 e:α->List Value
 len:∀x,(e x).length=sz
 one:∀x,∀c∈e x,c.oneCell'=true
 pos:0<sz
def Flat.enc {α:Type}(E:Flat α):Enc α:=Enc.flat E.sz E.e E.len E.one
theorem Flat.length {α:Type}(E:Flat α)(xs:List α):(xs.flatMap E.e).length=xs.length*E.sz:=by
 induction xs with
 |nil=>simp
 |cons x xs ih=>simp[ih,E.len,Nat.add_mul,Nat.add_comm]
theorem Flat.seg {α:Type}(E:Flat α)(xs:List α){i:Nat}(hi:i<xs.length):((xs.flatMap E.e).drop (i*E.sz)).take E.sz=E.e xs[i]:=by
 induction xs generalizing i with
 |nil=>simp at hi
 |cons x xs ih=>
  cases i with
  |zero=>
   simp only[Nat.zero_mul,List.drop_zero,List.flatMap_cons,List.getElem_cons_zero];rw[List.take_left' (E.len x)]
  |succ i=>
   have e1:(i+1)*E.sz=(E.e x).length+i*E.sz:=by rw[E.len,Nat.add_mul];omega
   rw[List.flatMap_cons,e1,List.drop_append,List.drop_eq_nil_of_le (by omega)];simp only[List.nil_append,Nat.add_sub_cancel_left,List.getElem_cons_succ];exact ih (by simpa using hi)
theorem Flat.ones {α:Type}(E:Flat α)(xs:List α):∀c∈xs.flatMap E.e,c.oneCell'=true:=by
 intro c hc;obtain ⟨x,_,hx⟩:=List.mem_flatMap.1 hc;exact E.one x c hx
theorem Flat.get {α:Type}(E:Flat α)(xs:List α){j:Nat}{u:Value}(h:(xs.flatMap E.e)[j]? =some u):∃(hi:j/E.sz<xs.length),(E.e (xs[j/E.sz]))[j%E.sz]? =some u:=by
 have hj:j<(xs.flatMap E.e).length:=by
  rcases Nat.lt_or_ge j (xs.flatMap E.e).length with h'|h'
  ·exact h'
  ·rw [List.getElem?_eq_none h'] at h;cases h
 rw[E.length] at hj;have hi:j/E.sz<xs.length:=Nat.div_lt_of_lt_mul (by rw[Nat.mul_comm];exact hj);refine ⟨hi,?_⟩;rw[<-E.seg xs hi,List.getElem?_take,if_pos (Nat.mod_lt _ E.pos),List.getElem?_drop,Nat.mul_comm,Nat.div_add_mod];exact h
def Row {α:Type}(E:Enc α)(w:World)(F:Nat->Prop)(b off:Nat)(xs:List α):Prop:=
 ∃cur ty fr,F b∧w.heap[b]? =some (.cells cur ty fr)∧off+xs.length*E.sz<=cur.size∧∀i (h:i<xs.length),E.rep w F ((cur.toList.drop (off+i*E.sz)).take E.sz) xs[i]
section
variable {α:Type}{E:Enc α}{G:Flat α}{w w':World}{F F':Nat->Prop}{v:Value}{xs:List α}{b off:Nat}{ty:TypeId}{cs:List Value}
theorem Row.L (h:Row E w F b off xs)(e:Le w w'):Row E w' F b off xs:=by
 obtain ⟨cur,ty,fr,hF,hb,hs,hr⟩:=h;exact ⟨cur,ty,fr,hF,(e.block b (lt_of_some hb) not_false).trans hb,hs,λi hi=>E.ext (hr i hi) λk _ hk=>e.block k hk not_false⟩
theorem Row.kM {M:Nat->Prop}(h:Row E w F b off xs)(e:Ext M w w')(hM:∀k,F k->¬M k):Row E w' F b off xs:=by
 obtain ⟨cur,ty,fr,hF,hb,hs,hr⟩:=h;exact ⟨cur,ty,fr,hF,(e.block b (lt_of_some hb) (hM b hF)).trans hb,hs,λi hi=>E.ext (hr i hi) λk hF hk=>e.block k hk (hM k hF)⟩
theorem Row.keepA {M:Nat->Prop}(h:Row E w F b off xs)(e:Ext M w w')(hM:∀k,F k->¬M k:=by intro k hk h;first|(have q:=hF k hk;(try dsimp only at h);omega)|(have q:=hF2 k hk;(try dsimp only at h);omega)|(have q:=hFb k hk;(try dsimp only at h);omega)|((try dsimp only at hk);(try dsimp only at h);omega)):Row E w' F b off xs:=Row.kM h e hM
theorem Row.at (h:Row E w F b off xs){i:Nat}(hi:i<xs.length):At E w F ⟨b,off+i*E.sz,none⟩ xs[i]:=by
 obtain ⟨cur,ty,fr,hF,hb,hs,hr⟩:=h;refine ⟨b,off+i*E.sz,cur,ty,fr,rfl,hF,hb,?_,hr i hi⟩;have:(i+1)*E.sz<=xs.length*E.sz:=Nat.mul_le_mul_right _ (by omega);rw[Nat.add_mul,Nat.one_mul] at this
 omega
theorem Sl.of_own {cap:Nat}(h:Own w b ty cs)(hcs:cs.take (xs.length*G.sz)=xs.flatMap G.e)(h1:xs.length<=cap)(h2:cap<=maxLen)(h3:cap*G.sz<=cs.length):
 Sl G.enc w (λk=>k=b) (.slice (some ⟨b,0,none⟩) xs.length cap) xs:=by
 obtain ⟨fr,hb,_⟩:=h;refine ⟨by omega,.inr ⟨b,0,cap,_,ty,fr,rfl,rfl,hb,h1,h2,?_,λi hi=>?_⟩⟩
 ·intro _
  show 0+cap*G.sz<=_
  simpa using h3
 ·show (_:List Value)=G.e xs[i]
  rw[<-G.seg xs hi,<-hcs];show ((cs.drop (0+i*G.sz)).take G.sz)=((cs.take (xs.length*G.sz)).drop (i*G.sz)).take G.sz;rw[Nat.zero_add,List.drop_take,List.take_take,Nat.min_eq_left];have:(i+1)*G.sz<=xs.length*G.sz:=Nat.mul_le_mul_right _ (by omega);rw[Nat.add_mul,Nat.one_mul] at this
  omega
theorem Sl.flat (h:Sl G.enc w F v xs):(∃a,v=.slice a 0 0∧xs=[])∨∃b off cap,F b∧v=.slice (some ⟨b,off,none⟩) xs.length cap∧xs.length<=cap∧b<w.heap.size∧∀j u,(xs.flatMap G.e)[j]? =some u->w.cell? ⟨b,off+j,none⟩=some u:=by
 rcases h.2 with h|⟨b,off,cap,cur,ty,fr,rfl,hF,hb,h1,h2,h3,hr⟩
 ·exact .inl h
 ·refine .inr ⟨b,off,cap,hF,rfl,h1,lt_of_some hb,λj u hu=>?_⟩
  obtain ⟨hi,hu⟩:=G.get xs hu;have hseg:(cur.toList.drop (off+(j/G.sz)*G.sz)).take G.sz=G.e (xs[j/G.sz]):=hr _ hi;rw[<-hseg,List.getElem?_take,if_pos (Nat.mod_lt _ G.pos),List.getElem?_drop,Nat.add_assoc,Nat.mul_comm,Nat.div_add_mod] at hu;simp only[World.cell?,hb,Option.isSome_none,Bool.false_eq_true,if_false]
  simpa using hu
end
def OwnF {α:Type}(G:Flat α)(ty:TypeId)(B:Nat)(w:World)(v:Value)(xs:List α):Prop:=w.ownsRow B ty G.sz v xs.length (xs.flatMap G.e)∧xs.length<=maxLen
def bk:Value->Nat->Prop
 |.slice (some a) _ _,k=>k=a.block
 |_,_=>False
section
variable {α:Type}{G:Flat α}{w w':World}{F:Nat->Prop}{v:Value}{xs ys:List α}{b B:Nat}{ty:TypeId}{cs:List Value}
theorem OwnF.nil (G:Flat α)(ty:TypeId)(B:Nat)(w:World):OwnF G ty B w (.slice none 0 0) []:=⟨World.ownsRow_nil _ _ _ _,by simp⟩
theorem OwnF.bk_ge (h:OwnF G ty B w v xs):∀k,bk v k->B<=k∧k<w.heap.size:=by
 intro k hk;cases v with
 |slice a n c=>
  cases a with
  |none=>exact hk.elim
  |some a=>simp only[bk] at hk;subst hk;exact h.1.lt _ rfl
 |_=>exact hk.elim
theorem OwnF.sl (h:OwnF G ty B w v xs):Sl G.enc w (bk v) v xs:=by
 refine ⟨h.2,?_⟩;rcases h.1.2 with ⟨rfl,h0⟩|⟨g,cap,cur,rfl,hb,hg,hn,hm,hs,ht⟩
 ·exact .inl ⟨_,rfl,List.eq_nil_of_length_eq_zero h0⟩
 ·refine .inr ⟨g,0,cap,cur,ty,(0,0),rfl,rfl,hg,hn,hm,?_,λi hi=>?_⟩
  ·intro _
   show 0+cap*G.sz<=_
   omega
  ·show (_:List Value)=G.e xs[i]
   rw[<-G.seg xs hi,<-ht];show ((cur.toList.drop (0+i*G.sz)).take G.sz)=((cur.toList.take (xs.length*G.sz)).drop (i*G.sz)).take G.sz;rw[Nat.zero_add,List.drop_take,List.take_take,Nat.min_eq_left];have:(i+1)*G.sz<=xs.length*G.sz:=Nat.mul_le_mul_right _ (by omega);rw[Nat.add_mul,Nat.one_mul] at this
   omega
theorem OwnF.kM {M:Nat->Prop}(h:OwnF G ty B w v xs)(e:Ext M w w')(hM:∀k,bk v k->¬M k):OwnF G ty B w' v xs:=by
 refine ⟨⟨h.1.1,?_⟩,h.2⟩;rcases h.1.2 with hn|⟨g,cap,cur,rfl,hb,hg,rest⟩
 ·exact .inl hn
 ·exact .inr ⟨g,cap,cur,rfl,hb,(e.block g (lt_of_some hg) (hM g rfl)).trans hg,rest⟩
theorem OwnF.keepA {M:Nat->Prop}(h:OwnF G ty B w v xs)(e:Ext M w w')(hM:∀k,bk v k->¬M k:=by intro k hk h;first|(have q:=hF k hk;(try dsimp only at h);omega)|(have q:=hF2 k hk;(try dsimp only at h);omega)|(have q:=hFb k hk;(try dsimp only at h);omega)|((try dsimp only at hk);(try dsimp only at h);omega)):OwnF G ty B w' v xs:=OwnF.kM h e hM
theorem OwnF.L (h:OwnF G ty B w v xs)(e:Le w w'):OwnF G ty B w' v xs:=h.kM e λ_ _=>not_false
theorem OwnF.low {B':Nat}(h:OwnF G ty B w v xs)(hB:B'<=B):OwnF G ty B' w v xs:=by
 refine ⟨⟨h.1.1,?_⟩,h.2⟩;rcases h.1.2 with hn|⟨g,cap,cur,rfl,hb,rest⟩
 ·exact .inl hn
 ·exact .inr ⟨g,cap,cur,rfl,Nat.le_trans hB hb,rest⟩
theorem ext_of_grown {row:Option Nat}(h:w.grownBy w' row):Ext (λk=>row=some k) w w':=
 ⟨h.os,h.tape,h.output,h.size,λk hk hn=>h.block k hk λe=>hn e.symm⟩
theorem run_append_flat {P:Program}{t tr:TypeId}{i:TypeInfo}{z y:Value}(ht:P.underlying t=some (.slice ty))(hi:P.info? ty=some i)(hz:i.zero=some z)(hsz:i.size=G.sz)(hzs:z.cells.size=G.sz)
 (hown:OwnF G ty B w v xs)(hy:Sl G.enc w F y ys)(hb:(xs.length+ys.length)*i.bytes<=140737488355328)(hl:xs.length+ys.length<=maxLen)(hB:B<=w.heap.size):
 ∃v' w',(Builtin.append_ #[t,t] tr #[v,y]).run P w=.ok v' w'∧OwnF G ty B w' v' (xs++ys)∧Ext (bk v) w w':=by
 have hsome:(∃a0,y=.slice a0 0 0∧ys=[]∧a0=none)∨∃a cap,y=.slice (some a) ys.length cap∧∀j u,(ys.flatMap G.e)[j]? =some u->w.cell? (a.add j)=some u:=by
  rcases hy.flat with ⟨a0,rfl,rfl⟩|⟨b,off,cap,hF,rfl,hc,hlt,hcell⟩
  ·cases a0 with
   |none=>exact .inl ⟨none,rfl,rfl,rfl⟩
   |some a=>exact .inr ⟨a,0,rfl,λj u hu=>by simp at hu⟩
  ·exact .inr ⟨⟨b,off,none⟩,cap,rfl,λj u hu=>by rw[Addr.add_none];exact hcell j u hu⟩
 rcases hsome with ⟨a0,rfl,rfl,rfl⟩|⟨a,cap,rfl,hcell⟩
 ·refine ⟨v,w,run_append_owned_none (P:=P) (w:=w) B t tr ty i G.sz ht hi v xs.length _ hown.1,by simpa using hown,Ext.L _ _⟩
 ·obtain ⟨v',w',hr,ho,hg,_⟩:=run_append_own (P:=P) w B t tr ty i z G.sz i.bytes ht hi hz hsz rfl hzs G.pos v xs.length _ hown.1 a ys.length cap (ys.flatMap G.e) (G.length ys)
   hcell (G.ones ys) hl hb hB
  refine ⟨v',w',hr,⟨?_,by simpa using hl⟩,(ext_of_grown hg).mono λk _ hk=>?_⟩
  ·rw [List.flatMap_append,List.length_append];exact ho
  ·cases v with
   |slice a n c=>
    cases a with
    |none=>simp[Value.ownBlock] at hk
    |some a=>simp only[Value.ownBlock,Option.some.injEq] at hk;exact hk.symm
   |_=>simp[Value.ownBlock] at hk
end
def byteF:Flat UInt8:=⟨1,λx=>[.int .u8 (x.toNat:Int)],λ_=>rfl,by simp[Value.oneCell'],by decide⟩
theorem byteF_map (l:List UInt8):l.flatMap byteF.e=l.map λx=>Value.int .u8 (x.toNat:Int):=by
 induction l with
 |nil=>rfl
 |cons a l ih=>rw[List.flatMap_cons,ih];rfl
section
variable
 {d:Nat}{x y:Operand}{t t' ty tr e:TypeId}{pos:String}{after:Array Edge}{α:Type}{E:Enc α}{G:Flat α}{F:Nat->Prop}
theorem O.alloc {z:Value}(hz:∀w,(zeroValue e).run P w=.ok z w)
 (h:∀b w',w.heap.size<=b->Own0 w' b e z.cells.toList->Le w w'->O P n ops rest N Z (upd f d (.pointer (some ⟨b,0,none⟩))) w'):
 O P n ops (ZO d (.alloc e) tr pos after::rest) N Z f w:=by
 refine O.val rfl rfl ?_ (h w.heap.size (w.alloc (.cells z.cells e)) (Nat.le_refl _) (by simpa using Own0.new w e z.cells.toList) (Le.alloc _ _));have h3:execOp (ev n f) (ZO d (.alloc e) tr pos after)=(do pure (.value (<-Instr.alloc e true (.tuple #[])))):=rfl;rw[h3,Sem.run_bind];have h4:(Instr.alloc e true (.tuple #[])).run P w=.ok (.pointer (some ⟨w.heap.size,0,none⟩)) (w.alloc (.cells z.cells e)):=by
  unfold Instr.alloc;rw[Sem.run_bind,hz]
  rfl
 rw[h4]
 rfl
theorem O.box {v:Value}(hx:ev n f x=v)
 (h:∀b w',w.heap.size<=b->Own0 w' b e v.cells.toList->Le w w'->O P n ops rest N Z (upd f d (.pointer (some ⟨b,0,none⟩))) w'):
 O P n ops (ZO d (.box e x) tr pos after::rest) N Z f w:=by
 refine O.val rfl rfl ?_ (h w.heap.size (w.alloc (.cells v.cells e)) (Nat.le_refl _) (by simpa using Own0.new w e v.cells.toList) (Le.alloc _ _));have h3:execOp (ev n f) (ZO d (.box e x) tr pos after)=(do pure (.value (<-Instr.box e (ev n f x)))):=rfl;rw[h3,Sem.run_bind,hx]
 rfl
theorem O.nilChk {a:Addr}(hx:ev n f x=.pointer (some a))(h:O P n ops rest N Z (upd f d (.pointer (some a))) w):
 O P n ops (ZO d (.nilCheck x) tr pos after::rest) N Z f w:=
 O.val rfl rfl (by simp[execOp,hx]) h
theorem O.idxA {k:IntKind}{len s b o:Nat}{i:Int}(ht:P.underlying t=some (.array len e))(hsz:∀w,(sizeOf e).run P w=.ok s w)(hx:ev n f x=.pointer (some ⟨b,o,none⟩))(hy:ev n f y=.int k i)(hi:0<=i∧i<len)
 (h:O P n ops rest N Z (upd f d (.pointer (some ⟨b,o+i.toNat*s,none⟩))) w):
 O P n ops (ZO d (.indexAddr t x y) tr pos after::rest) N Z f w:=by
 refine O.val rfl rfl ?_ h;have h3:execOp (ev n f) (ZO d (.indexAddr t x y) tr pos after)=(do pure (.value (<-Instr.indexAt t (ev n f x) (ev n f y)))):=rfl;rw[h3,Sem.run_bind,hx,hy];have h4:(Instr.indexAt t (.pointer (some ⟨b,o,none⟩)) (.int k i)).run P w=.ok (.pointer (some ⟨b,o+i.toNat*s,none⟩)) w:=by
  simp[Instr.indexAt,Instr.sureAddr,asIntOf,run_underlying ht,hi.1,hi.2,hsz,Addr.add_none]
 rw[h4]
 rfl
theorem O.store {b o:Nat}{cs:List Value}{v:Value}(hsz:∀w,(sizeOf t).run P w=.ok 1 w)(hx:ev n f x=.pointer (some ⟨b,o,none⟩))(hy:ev n f y=v)(h1:v.oneCell'=true)(ho:Own w b ty cs)(hlt:o<cs.length)
 (h:∀w',Own w' b ty (cs.set o v)->Ext (λk=>k=b) w w'->w'.heap.size=w.heap.size->O P n ops rest N Z f w'):
 O P n ops ({dst:=.none,op:=.store t x y,type:=tr,pos:=pos,after:=after,guard:=.none}::rest) N Z f w:=by
 refine O.act rfl rfl ?_ (h (w.setCell ⟨b,o,none⟩ v) (ho.set o v) (Ext.set w ⟨b,o,none⟩ v) (by simp));have h3:execOp (ev n f) {dst:=.none,op:=.store t x y,type:=tr,pos:=pos,after:=after,guard:=.none}=(do Instr.storeAt t (ev n f x) (ev n f y);pure .skip):=rfl;rw[h3,Sem.run_bind,hx,hy];have hcells:v.cells=#[v]:=by cases v<;>first|rfl|simp[Value.oneCell'] at h1
 have hc:=ho.cell (i:=o) (v:=cs[o]) (by simp);have hf:=ho.free hlt;have h4:(Instr.storeAt t (.pointer (some ⟨b,o,none⟩)) v).run P w=.ok () (w.setCell ⟨b,o,none⟩ v):=by
  simp[Instr.storeAt,Instr.sureAddr,storeVar,hsz,hcells,storeCells,Addr.add,run_store P w ⟨b,o,none⟩ v .plain h1,hc,hf]
 rw[h4]
 rfl
theorem O.loadO {b o:Nat}{cs:List Value}{v:Value}(hag:∀w,(isAgg t).run P w=.ok false w)(hx:ev n f x=.pointer (some ⟨b,o,none⟩))(ho:Own w b ty cs)(hv:cs[o]? =some v)(h:O P n ops rest N Z (upd f d v) w):
 O P n ops (ZO d (.load t x) tr pos after::rest) N Z f w:=by
 refine O.val rfl rfl ?_ h;have h3:execOp (ev n f) (ZO d (.load t x) tr pos after)=(do pure (.value (<-Instr.loadAt t (ev n f x)))):=rfl;rw[h3,Sem.run_bind,hx];have h4:(Instr.loadAt t (.pointer (some ⟨b,o,none⟩))).run P w=.ok v w:=by
  simp[Instr.loadAt,Instr.sureAddr,loadVar,hag,ho.cell hv]
 rw[h4]
 rfl
theorem O.lit {len:Nat}{parts:List (Nat×Operand)}{vs:List (Nat×Value)}{cells:Array Value}{ie:TypeInfo}{z:Value}(hu:P.underlying t=some (.slice e))(hie:P.info? e=some ie)(hz:ie.zero=some z)(hsmall:¬len*ie.size>2^24)(hpos:¬len*ie.size=0)
 (hvs:parts.map (λx=>(x.1,ev n f x.2))=vs)
 (hf:Instr.fill (λi=>some (i*ie.size,ie.size)) ((Array.range (len*ie.size)).map (z.cells[· %z.cells.size]!)) vs=some cells)
 (h:∀b w',w.heap.size<=b->Own0 w' b e cells.toList->Le w w'->O P n ops rest N Z (upd f d (.slice (some ⟨b,0,none⟩) len len)) w'):
 O P n ops (ZO d (.buildSlice t len parts.toArray) tr pos after::rest) N Z f w:=by
 refine O.val rfl rfl ?_ (h w.heap.size (w.alloc (.cells cells e)) (Nat.le_refl _) (by simpa using Own0.new w e cells.toList) (Le.alloc _ _));have h3:execOp (ev n f) (ZO d (.buildSlice t len parts.toArray) tr pos after)=(do pure (.value (<-Instr.buildSlice t len (parts.toArray.map λx=>(x.1,ev n f x.2))))):=rfl;rw[h3,Sem.run_bind,run_buildSlice w t e len _ cells ie z hu hie hz hsmall hpos (by simpa[hvs] using hf)]
 rfl
theorem O.lit0 {ie:TypeInfo}(hu:P.underlying t=some (.slice e))(hie:P.info? e=some ie)
 (h:∀b w',w.heap.size<=b->Own0 w' b e []->Le w w'->O P n ops rest N Z (upd f d (.slice (some ⟨b,0,none⟩) 0 0)) w'):
 O P n ops (ZO d (.buildSlice t 0 #[]) tr pos after::rest) N Z f w:=by
 refine O.val rfl rfl ?_ (h w.heap.size (w.alloc (.cells #[] e)) (Nat.le_refl _) (Own0.new w e []) (Le.alloc _ _));have h3:execOp (ev n f) (ZO d (.buildSlice t 0 #[]) tr pos after)=(do pure (.value (<-Instr.buildSlice t 0 #[]))):=by simp[execOp]
 rw[h3,Sem.run_bind];have h4:(Instr.buildSlice t 0 #[]).run P w=.ok (.slice (some ⟨w.heap.size,0,none⟩) 0 0) (w.alloc (.cells #[] e)):=by
  unfold Instr.buildSlice;rw[Sem.run_bind,run_underlying hu,Result.andThen_ok];simp only[Sem.run_bind,run_sizeOf hie,Result.andThen_ok,Nat.zero_mul];rw[if_neg (by decide),if_pos trivial];have e0:∀z:Array Value,(Array.range 0).map (λx=>z[x%z.size]!)=#[]:=λz=>by simp
  simp only[Sem.run_bind,Sem.run_pure,Result.andThen_ok,e0]
  rfl
 rw[h4]
 rfl
theorem O.bytesS {v:Value}{l:List UInt8}(ht:P.underlying t=some (.slice e))(he:P.underlying e=some (.int .u8))(ht':P.underlying t'=some .string)(hx:ev n f x=v)(hv:Sl byteE w F v l)
 (h:O P n ops rest N Z (upd f d (str l)) w):
 O P n ops (ZO d (.convert t t' x) tr pos after::rest) N Z f w:=by
 refine O.val rfl rfl ?_ h;have h3:execOp (ev n f) (ZO d (.convert t t' x) tr pos after)=(do pure (.value (<-convert t t' (ev n f x)))):=rfl;rw[h3,Sem.run_bind,hx];have h4:(convert t t' v).run P w=.ok (str l) w:=by
  rcases (show Sl byteF.enc w F v l from hv).flat with ⟨a0,rfl,rfl⟩|⟨b,off,cap,hF,rfl,hc,hlt,hcell⟩
  ·cases a0 with
   |none=>exact run_convert_bytes_nil w t e ht he 0 0 t' ht'
   |some a=>
    rw[run_convert_bytes_string w t t' e _ 0 0 ht he ht',run_bytesToString w _ 0 0 [] (run_loadCells_list w a [] (λj v hj=>by simp at hj))]
    rfl
  ·rw [run_convert_bytes_arg w t e ht he b off l.length cap (l.map λx=>(x.toNat:Int)) (by simp) (λi hi=>?_) t' ht']
   ·have:strOfNums (l.map λx=>(x.toNat:Int))=⟨l.toArray⟩:=by
     unfold strOfNums
     congr 2
     rw[List.map_map]
     conv=>rhs;rw[<-List.map_id l]
     apply List.map_congr_left
     intro a _
     simp
    rw[this];rfl
   ·have:=hcell i (.int .u8 (((l.map λx=>(x.toNat:Int)).getD i 0))) ?_
    ·exact this
    ·rw [byteF_map]
     simp[List.getD_eq_getElem?_getD,hi]
 rw[h4]
 rfl
theorem O.strB {l:List UInt8}(ht:P.underlying t=some .string)(ht':P.underlying t'=some (.slice e))(he:P.underlying e=some (.int .u8))(hx:ev n f x=str l)(hl:l.length<=maxLen)
 (h:∀b cap w',w.heap.size<=b->l.length<=cap->Own w' b e (l.flatMap byteF.e++List.replicate (cap-l.length) (.int .u8 0))->Sl byteE w' (λk=>k=b) (.slice (some ⟨b,0,none⟩) l.length cap) l->Le w w'->
   O P n ops rest N Z (upd f d (.slice (some ⟨b,0,none⟩) l.length cap)) w'):
 O P n ops (ZO d (.convert t t' x) tr pos after::rest) N Z f w:=by
 have hsz:ByteArray.size ⟨l.toArray⟩=l.length:=by simp[ByteArray.size]
 obtain ⟨cap,hcap⟩:∃cap,cap=(Question.appendCap l.length 0 e).cut (w.tape w.drawn (.appendCap l.length 0 e)):=⟨_,rfl⟩
 have hc1:l.length<=cap:=by rw[hcap];exact Nat.le_add_right _ _
 have hc2:cap<=maxLen:=by
  rw[hcap];have hlt:=Nat.mod_lt (w.tape w.drawn (.appendCap l.length 0 e)) (show 0<2^63-l.length by simp only[maxLen] at hl;omega);simp only[Question.cut,maxLen] at hl ⊢
  omega
 let cs:List Value:=l.flatMap byteF.e++List.replicate (cap-l.length) (.int .u8 0)
 have hcs:cs.length=cap:=by
  show (l.flatMap byteF.e++List.replicate (cap-l.length) (Value.int .u8 0)).length=cap;rw[List.length_append,byteF.length,List.length_replicate];show l.length*1+_=_
  omega
 let w1:World:={w with drawn:=w.drawn+1}
 let w2:World:=w1.alloc (.cells cs.toArray e)
 have hb2:w2.heap[w.heap.size]? =some (.cells cs.toArray e):=by show (w.heap.push _)[w.heap.size]? =_;simp
 have hsh:w2.shape? w.heap.size=some (e,cs.length):=by simp[World.shape?,hb2]
 have harr:(Array.map (λb:UInt8=>Value.int .u8 (b.toNat:Int)) l.toArray++Array.replicate (cap-l.length) (Value.int .u8 0))=cs.toArray:=by
  apply Array.toList_inj.1
  simp only[Array.toList_append,Array.toList_map,Array.toList_replicate];show _=l.flatMap byteF.e++List.replicate (cap-l.length) (.int .u8 0);rw[byteF_map]
 have hconv:(Conv.stringToBytes e ⟨l.toArray⟩).run P w=.ok (.slice (some ⟨w.heap.size,0,none⟩) l.length cap) (w2.freeze ⟨w.heap.size,cs.length,none⟩ 1):=by
  unfold Conv.stringToBytes;rw[Sem.run_bind,run_choose,if_neg (by simp[Question.forced]),hsz,Result.andThen_ok,<-hcap];show Sem.run P (do let a <-newRow e (Array.map (λb:UInt8=>Value.int .u8 (b.toNat:Int)) l.toArray++Array.replicate (cap-l.length) (.int .u8 0));markStringish a;pure (Value.slice (some a) l.length cap)) w1=_;rw[harr,Sem.run_bind];have hn:(newRow e cs.toArray).run P w1=.ok ⟨w.heap.size,0,none⟩ w2:=rfl;rw[hn,Result.andThen_ok,Sem.run_bind];have hm:(markStringish ⟨w.heap.size,0,none⟩).run P w2=.ok () (w2.freeze ⟨w.heap.size,cs.length,none⟩ 1):=by
   simp[markStringish,hsh]
  rw[hm,Result.andThen_ok]
  rfl
 have hblk:(w2.freeze ⟨w.heap.size,cs.length,none⟩ 1).heap[w.heap.size]? =some (.cells cs.toArray e (cs.length,cs.length+1)):=by
  unfold World.freeze;rw[if_neg (by decide)];show (w2.heap.modify w.heap.size _)[w.heap.size]? =_;rw[Array.getElem?_modify,if_pos rfl,hb2]
  simp
 have hown:Own (w2.freeze ⟨w.heap.size,cs.length,none⟩ 1) w.heap.size e cs:=⟨_,hblk,.inr rfl⟩
 have hle:Le w (w2.freeze ⟨w.heap.size,cs.length,none⟩ 1):=by
  refine ⟨rfl,rfl,rfl,?_,λk hk _=>?_⟩
  ·simp [World.freeze,w2,w1]
  ·unfold World.freeze
   rw[if_neg (by decide)];show (w2.heap.modify w.heap.size _)[k]? =_;rw[Array.getElem?_modify,if_neg (by omega)];show (w.heap.push _)[k]? =_;rw[Array.getElem?_push,if_neg (by omega)]
 refine O.val rfl rfl (w':=w2.freeze ⟨w.heap.size,cs.length,none⟩ 1) ?_ (h w.heap.size cap _ (Nat.le_refl _) hc1 hown ?_ hle)
 ·have h3:execOp (ev n f) (ZO d (.convert t t' x) tr pos after)=(do pure (.value (<-convert t t' (ev n f x)))):=rfl
  have h4:(convert t t' (str l)).run P w=(Conv.stringToBytes e ⟨l.toArray⟩).run P w:=by
   unfold convert;rw[Sem.run_bind,run_underlying ht,Result.andThen_ok,Sem.run_bind,run_underlying ht',Result.andThen_ok];simp only[str];rw[Sem.run_bind,run_underlying he,Result.andThen_ok]
  rw[h3,Sem.run_bind,hx,h4,hconv]
  rfl
 ·refine Sl.of_own (G:=byteF) hown ?_ hc1 hc2 ?_
  ·rw [<-byteF.length l]
   exact List.take_left
  ·show cap*1<=cs.length
   omega
theorem O.appF {i:TypeInfo}{z v v2:Value}{xs ys:List α}{B:Nat}(ht:P.underlying t=some (.slice e))(hi:P.info? e=some i)(hz:i.zero=some z)(hsz:i.size=G.sz)(hzs:z.cells.size=G.sz)
 (hx:ev n f x=v)(hy:ev n f y=v2)(hown:OwnF G e B w v xs)(hv2:Sl G.enc w F v2 ys)(hb:(xs.length+ys.length)*i.bytes<=140737488355328)(hl:xs.length+ys.length<=maxLen)(hB:B<=w.heap.size)
 (h:∀v' w',OwnF G e B w' v' (xs++ys)->Ext (bk v) w w'->O P n ops rest N Z (upd f d v') w'):
 O P n ops (ZO d (.call {callee:=.builtin .append,args:=[x,y].toArray,argTypes:=[t,t].toArray}) tr pos after::rest) N Z f w:=by
 obtain ⟨v',w',hr,ho,he⟩:=run_append_flat (P:=P) (tr:=tr) ht hi hz hsz hzs hown hv2 hb hl hB;refine O.val rfl rfl ?_ (h v' w' ho he);have h3:(execOp (ev n f) (ZO d (.call {callee:=.builtin .append,args:=[x,y].toArray,argTypes:=[t,t].toArray}) tr pos after)).run P w=((Builtin.append_ #[t,t] tr #[ev n f x,ev n f y]).run P w).andThen (λv w=>.ok (.value v) w):=by
  simp[execOp,resolve,invoke,builtin]
 rw[h3,hx,hy,hr]
 rfl
theorem O.subS {l:List UInt8}{lo hi:Int}{ol oh:Option Operand}(ht:P.underlying t=some .string)(hx:ev n f x=str l)
 (hlo:(ol=.none∧lo=0)∨∃o k,ol=some o∧ev n f o=.int k lo)(hhi:(oh=.none∧hi=l.length)∨∃o k,oh=some o∧ev n f o=.int k hi)(hb:0<=lo∧lo<=hi∧hi<=l.length)
 (h:O P n ops rest N Z (upd f d (str ((l.take hi.toNat).drop lo.toNat))) w):
 O P n ops (ZO d (.slice t x ol oh .none) tr pos after::rest) N Z f w:=by
 refine O.val rfl rfl ?_ h;have h3:execOp (ev n f) (ZO d (.slice t x ol oh .none) tr pos after)=(do pure (.value (<-Instr.sliceAt t (ev n f x) (ol.map (ev n f)) (oh.map (ev n f)) .none))):=rfl;have hsz:ByteArray.size ⟨l.toArray⟩=l.length:=by simp[ByteArray.size]
 have hbl:∀(k:IntKind) (x:Int) (y:Nat) (c:BoundsCode),0<=x->x<=y->(Instr.sliceBound (.int k x) y c).run P w=.ok x.toNat w:=by
  intro k x y c h0 h1
  simp[Instr.sliceBound,asIntOf,h0,h1]
 have h4:(Instr.sliceAt t (str l) (ol.map (ev n f)) (oh.map (ev n f)) .none).run P w=.ok (str ((l.take hi.toNat).drop lo.toNat)) w:=by
  have hh2:∀r:Nat,r=hi.toNat->(match (oh.map (ev n f)) with|some v=>Instr.sliceBound v l.length .sliceAlen|.none=>pure l.length:Sem Nat).run P w=.ok hi.toNat w:=by
   intro r _;rcases hhi with ⟨rfl,rfl⟩|⟨o,k,rfl,ho⟩
   ·simp
   ·simp only[Option.map_some,ho];exact hbl _ hi l.length _ (by omega) hb.2.2
  have hl2:(match (ol.map (ev n f)) with|some v=>Instr.sliceBound v hi.toNat .sliceB|.none=>pure 0:Sem Nat).run P w=.ok lo.toNat w:=by
   rcases hlo with ⟨rfl,rfl⟩|⟨o,k,rfl,ho⟩
   ·simp
   ·simp only[Option.map_some,ho];exact hbl _ lo hi.toNat _ hb.1 (by omega)
  unfold Instr.sliceAt;rw[Sem.run_bind,run_underlying ht,Result.andThen_ok];simp only[Instr.slice];rw[Sem.run_bind,run_underlying ht,Result.andThen_ok];simp only[str,hsz,Option.isSome_none,Bool.false_eq_true,if_false,Instr.sliceBounds];rcases hhi with ⟨rfl,rfl⟩|⟨o,k,rfl,ho⟩<;>rcases hlo with ⟨rfl,rfl⟩|⟨o',k',rfl,ho'⟩<;>
   simp_all[extract_mk]
 rw[h3,Sem.run_bind,hx,h4]
 rfl
end
end Go.Pn
end
section
namespace Go.Pn
theorem OwnF.block {α:Type}{G:Flat α}{ty:TypeId}{B:Nat}{w:World}{v:Value}{xs:List α}(h:OwnF G ty B w v xs)(hne:0<xs.length):
 ∃g cap cs,v=.slice (some ⟨g,0,none⟩) xs.length cap∧Own w g ty cs∧cs.take (xs.length*G.sz)=xs.flatMap G.e∧xs.length<=cap∧cap<=maxLen∧cap*G.sz<=cs.length∧B<=g:=by
 rcases h.1.2 with ⟨rfl,h0⟩|⟨g,cap,cur,rfl,hb,hg,hn,hm,hs,ht⟩
 ·omega
 ·exact ⟨g,cap,cur.toList,rfl,⟨(0,0),by simpa using hg,.inl rfl⟩,ht,hn,hm,by simp;omega,hb⟩
section
variable
 {d:Nat}{x y:Operand}{t e tr:TypeId}{pos:String}{after:Array Edge}
theorem O.idxO {k:IntKind}{len cap s b:Nat}{i:Int}(ht:P.underlying t=some (.slice e))(hsz:∀w,(sizeOf e).run P w=.ok s w)(hx:ev n f x=.slice (some ⟨b,0,none⟩) len cap)(hy:ev n f y=.int k i)(hi:0<=i∧i<len)
 (h:O P n ops rest N Z (upd f d (.pointer (some ⟨b,0+i.toNat*s,none⟩))) w):
 O P n ops (ZO d (.indexAddr t x y) tr pos after::rest) N Z f w:=by
 refine O.val rfl rfl ?_ h;have h3:execOp (ev n f) (ZO d (.indexAddr t x y) tr pos after)=(do pure (.value (<-Instr.indexAt t (ev n f x) (ev n f y)))):=rfl;rw[h3,Sem.run_bind,hx,hy];have h4:(Instr.indexAt t (.slice (some ⟨b,0,none⟩) len cap) (.int k i)).run P w=.ok (.pointer (some ⟨b,0+i.toNat*s,none⟩)) w:=by
  simp[Instr.indexAt,asIntOf,run_underlying ht,hi.1,hi.2,hsz,Addr.add_none]
 rw[h4]
 rfl
end
end Go.Pn
end
section
namespace Go.Pn
section
variable {P:Program}{n:Nat}{l:List Oper}{N:Val->World->Prop}{X:Nat->Val->World->Prop}{R:Val->World->Prop}{Z:List PanicEntry->World->Prop}{f:Val}{w wB:World}
abbrev Q0 (n:Nat)(N:Val->World->Prop)(Z:List PanicEntry->World->Prop):Exit->Act->World->Prop:=Ex n N (λ_ _ _=>False) (λ_ _=>False) Z
def D (P:Program)(n:Nat)(l:List Oper)(listed:Array Bool)(N:Val->World->Prop)(Z:List PanicEntry->World->Prop)(wB:World)(fuel:Nat)(f:Val)(w:World):Prop:=
 wpAnyH P .any l.toArray (Q0 n N Z) (λw'=>Le wB w') fuel listed (Fr n f) w
theorem Q0_put (o:Option Nat)(v:Value):∀c a w,Q0 n N Z (.panic c) (a.put o v) w->Q0 n N Z (.panic c) a w:=by
 intro c a w h;cases o<;>exact h
theorem C.draw {id:Nat}(hm:P.follows .mixedOrders=true)(h:∀w1,Le w w1->D P n l (Array.replicate l.toArray.size false) N Z w1 l.toArray.size f w1):C P n (.region id l.toArray true) N X R Z f w:=by
 refine wp_mono (wp_region_held (S:=λw'=>Le {w with drawn:=w.drawn+1} w') hm (h {w with drawn:=w.drawn+1} ⟨rfl,rfl,rfl,Nat.le_refl _,λ_ _ _=>rfl⟩)) ?_;intro e a w he;cases e with
 |normal=>exact he
 |exit i=>obtain ⟨_,_,h⟩:=he;exact h.elim
 |goto l=>exact he
 |ret=>obtain ⟨_,_,h⟩:=he;exact h.elim
 |panic ch=>exact he
 |outgrown=>exact he
theorem C.drawB {id:Nat}(hm:P.follows .mixedOrders=true)(h:∀w1,Le w w1->D P n l (Array.replicate l.toArray.size false) N Z wB l.toArray.size f w1):C P n (.region id l.toArray true) N X R Z f w:=by
 refine wp_mono (wp_region_held (S:=λw'=>Le wB w') hm (h {w with drawn:=w.drawn+1} ⟨rfl,rfl,rfl,Nat.le_refl _,λ_ _ _=>rfl⟩)) ?_;intro e a w he;cases e with
 |normal=>exact he
 |exit i=>obtain ⟨_,_,h⟩:=he;exact h.elim
 |goto l=>exact he
 |ret=>obtain ⟨_,_,h⟩:=he;exact h.elim
 |panic ch=>exact he
 |outgrown=>exact he
theorem D.done {listed:Array Bool}{fuel:Nat}(hr:Region.ready .any l.toArray listed=[])(h:N f w):D P n l listed N Z wB fuel f w:=wpAnyH_done hr ⟨f,rfl,h⟩ fuel
theorem run_of_O {o:Oper}{d:Nat}{v:Value}{w':World}(hg:o.guard=.none)(hd:o.dst=some d)(hdn:d<n)(hX:∃X:Sem Value,execOp (ev n f) o=(do pure (.value (<-X))))
 (hO:∀N:Val->World->Prop,N (upd f d v) w'->O P n [o] [o] N (λ_ _=>False) f w'):(execOp (ev n f) o).run P w'=.ok (.value v) w':=by
 have h:=hO (λf' w''=>f'=upd f d v∧w''=w') ⟨rfl,rfl⟩;obtain ⟨X,hX⟩:=hX;unfold O at h;simp only[wpList,Region.wanted,hg,if_true] at h;rcases h with h|⟨_,_,_,h⟩
 ·unfold Oper.wp at h
  rw[eval_Fr,hX,Sem.run_bind] at h;rw[hX,Sem.run_bind];cases hr:X.run P w' with
  |ok u w''=>
   rw[hr] at h;simp only[Result.andThen,Sem.run_pure,Oper.upon,hd] at h;obtain ⟨f',e1,rfl,rfl⟩:=h;rw[put_Fr] at e1;have h2:=congrArg (λa:Act=>a.eval (.tmp d)) e1;simp only[eval_Fr,ev,Nat.ble_eq_true_of_le hdn,cond_true,upd,nbeq_self] at h2;subst h2
   rfl
  |halt x w''=>
   rw[hr] at h;simp only[Result.andThen,Oper.upon] at h;cases x<;>first|exact h.2.elim|exact h.elim
 ·exact h.elim
theorem D.take {listed:Array Bool}{fuel i:Nat}{o:Oper}{d:Nat}{v:Value}(hi:l[i]? =some o)(hg:o.guard=.none)(hd:o.dst=some d)(hdn:Nat.ble (d+1) n=true)
 (hk:(Region.noSelect l.toArray&&Region.free .any l.toArray listed i&&(Region.ready .any l.toArray listed).contains i)=true)
 (hS:Le wB w)(hX:∃X:Sem Value,execOp (ev n f) o=(do pure (.value (<-X))))
 (hO:∀w',Le wB w'->∀N:Val->World->Prop,N (upd f d v) w'->O P n [o] [o] N (λ_ _=>False) f w')
 (h:D P n l (listed.setIfInBounds i true) N Z wB fuel (upd f d v) w):D P n l listed N Z wB (fuel+1) f w:=by
 simp only[Bool.and_eq_true] at hk;have hy:YieldsIf P l.toArray (λw'=>Le wB w') o v (Fr n f):=
  .inl ⟨by simp[Region.wanted,hg],λw' hw=>by rw[eval_Fr];exact run_of_O hg hd (Nat.le_of_ble_eq_true hdn) hX (hO w' hw)⟩
 refine wpAnyH_take (i:=i) (oi:=o) (v:=v) (by simpa using hi) hk.1.1 hk.1.2 hk.2 (Q0_put _ _) hy hS ?_;rw[hd,put_Fr];exact h
theorem D.tk {listed:Array Bool}{fuel:Nat}{o:Oper}{d:Nat}{v:Value}(i:Nat)(hi:l[i]? =some o)(hg:o.guard=.none)(hd:o.dst=some d)(hdn:Nat.ble (d+1) n=true)
 (hS:Le wB w)(hX:∃X:Sem Value,execOp (ev n f) o=(do pure (.value (<-X))))
 (hO:∀w',Le wB w'->∀N:Val->World->Prop,N (upd f d v) w'->O P n [o] [o] N (λ_ _=>False) f w')
 (h:D P n l (listed.setIfInBounds i true) N Z wB fuel (upd f d v) w)(hk:(Region.noSelect l.toArray&&Region.free .any l.toArray listed i&&(Region.ready .any l.toArray listed).contains i)=true:=by kernel_rfl):D P n l listed N Z wB (fuel+1) f w:=
 D.take hi hg hd hdn hk hS hX hO h
theorem D.t {listed:Array Bool}{fuel:Nat}{op:Op}{ty:TypeId}{pos:String}{after:Array Edge}{d:Nat}{v:Value}(i:Nat)(hi:l[i]? =some (ZO d op ty pos after))
 (hS:Le wB w)
 (hO:∀w',Le wB w'->∀N:Val->World->Prop,N (upd f d v) w'->O P n [ZO d op ty pos after] [ZO d op ty pos after] N (λ_ _=>False) f w')
 (h:D P n l (listed.setIfInBounds i true) N Z wB fuel (upd f d v) w)(hdn:Nat.ble (d+1) n=true:=by rfl)(hX:∃X:Sem Value,execOp (ev n f) (ZO d op ty pos after)=(do pure (.value (<-X))):=by exact ⟨_,rfl⟩)
 (hk:(Region.noSelect l.toArray&&Region.free .any l.toArray listed i&&(Region.ready .any l.toArray listed).contains i)=true:=by kernel_rfl):D P n l listed N Z wB (fuel+1) f w:=
 D.take hi rfl rfl hdn hk hS hX hO h
theorem D.mv {listed:Array Bool}{fuel:Nat}{x:Operand}{ty:TypeId}{pos:String}{after:Array Edge}{d:Nat}(i:Nat)(hi:l[i]? =some (ZO d (.move x) ty pos after))
 (hS:Le wB w)(h:D P n l (listed.setIfInBounds i true) N Z wB fuel (upd f d (ev n f x)) w)(hdn:Nat.ble (d+1) n=true:=by rfl)
 (hk:(Region.noSelect l.toArray&&Region.free .any l.toArray listed i&&(Region.ready .any l.toArray listed).contains i)=true:=by kernel_rfl):D P n l listed N Z wB (fuel+1) f w:=
 D.take hi rfl rfl hdn hk hS ⟨pure _,rfl⟩ (λ_ _ _ hN=>O.mv (O.o hN)) h
theorem D.as {listed:Array Bool}{fuel:Nat}{x:Operand}{ty:TypeId}{pos:String}{after:Array Edge}{d:Nat}(i:Nat)(hi:l[i]? =some (ZO d (.assign x) ty pos after))
 (hS:Le wB w)(h:D P n l (listed.setIfInBounds i true) N Z wB fuel (upd f d (ev n f x)) w)(hdn:Nat.ble (d+1) n=true:=by rfl)
 (hk:(Region.noSelect l.toArray&&Region.free .any l.toArray listed i&&(Region.ready .any l.toArray listed).contains i)=true:=by kernel_rfl):D P n l listed N Z wB (fuel+1) f w:=
 D.take hi rfl rfl hdn hk hS ⟨pure _,rfl⟩ (λ_ _ _ hN=>O.j (O.o hN)) h
theorem C.sd {id:Nat}{b:Code}(h:∀{K:Val->World->Prop},(∀{wB:World} {listed:Array Bool} {fuel:Nat} {f:Val} {w:World},C P n b N X R Z f w->(_:Region.ready .any l.toArray listed=[]:=by kernel_rfl)->D P n l listed K Z wB fuel f w)->∀w1,Le w w1->w.heap.size<=w1.heap.size->D P n l (Array.replicate l.toArray.size false) K Z w1 l.toArray.size f w1)(hm:P.follows .mixedOrders=true:=by kernel_rfl):C P n (.seq (.region id l.toArray true) b) N X R Z f w:=
 C.seqK λK hK=>C.draw hm λw1 e=>h (K:=K) (λh hr=>D.done hr (hK _ _ h)) w1 e e.size
theorem D.takeYes {listed:Array Bool}{fuel i:Nat}{dst:Option Nat}{op:Op}{ty:TypeId}{pos:String}{after:Array Edge}{j dj:Nat}{b:Bool}{d:Nat}{v:Value}
 (hi:l[i]? =some {dst:=dst,op:=op,type:=ty,pos:=pos,after:=after,guard:=some (j,b)})(hd:dst=some d)(hdn:Nat.ble (d+1) n=true)
 (hk:(Region.noSelect l.toArray&&Region.free .any l.toArray listed i&&(Region.ready .any l.toArray listed).contains i)=true)
 (hj:(l[j]?).bind (·.dst)=some dj)(hv:ev n f (.tmp dj)=.bool b)
 (hS:Le wB w)(hX:∃X:Sem Value,execOp (ev n f) {dst:=dst,op:=op,type:=ty,pos:=pos,after:=after,guard:=.none}=(do pure (.value (<-X))))
 (hO:∀w',Le wB w'->∀N:Val->World->Prop,N (upd f d v) w'->O P n [{dst:=dst,op:=op,type:=ty,pos:=pos,after:=after,guard:=.none}] [{dst:=dst,op:=op,type:=ty,pos:=pos,after:=after,guard:=.none}] N (λ_ _=>False) f w')
 (h:D P n l (listed.setIfInBounds i true) N Z wB fuel (upd f d v) w):D P n l listed N Z wB (fuel+1) f w:=by
 simp only[Bool.and_eq_true] at hk;have hy0:yielded l.toArray (Fr n f).tmps j=some b:=by
  have hd:=getD_Fr n f dj;rw[hv] at hd;unfold yielded;have h1:(l.toArray[j]?).bind (·.dst)=some dj:=by simpa using hj
  rw[h1];simp only[Option.bind_some];rw[Array.getD_eq_getD_getElem?] at hd;cases hx:(Fr n f).tmps[dj]? with
  |none=>rw[hx] at hd;simp[undef] at hd
  |some v=>rw[hx] at hd;simp at hd;subst hd;rfl
 have hy:YieldsIf P l.toArray (λw'=>Le wB w') {dst:=dst,op:=op,type:=ty,pos:=pos,after:=after,guard:=some (j,b)} v (Fr n f):=
  .inl ⟨by simp[Region.wanted,hy0],λw' hw=>by rw[eval_Fr];exact run_of_O (o:={dst:=dst,op:=op,type:=ty,pos:=pos,after:=after,guard:=.none}) rfl hd (Nat.le_of_ble_eq_true hdn) hX (hO w' hw)⟩
 refine wpAnyH_take (i:=i) (v:=v) (by simpa using hi) hk.1.1 hk.1.2 hk.2 (Q0_put _ _) hy hS ?_;simp only[hd];rw[put_Fr];exact h
theorem D.ty {listed:Array Bool}{fuel:Nat}{dst:Option Nat}{op:Op}{ty:TypeId}{pos:String}{after:Array Edge}{j dj:Nat}{b:Bool}{d:Nat}{v:Value}(i:Nat)
 (hi:l[i]? =some {dst:=dst,op:=op,type:=ty,pos:=pos,after:=after,guard:=some (j,b)})(hd:dst=some d)(hdn:Nat.ble (d+1) n=true)
 (hj:(l[j]?).bind (·.dst)=some dj)(hv:ev n f (.tmp dj)=.bool b)
 (hS:Le wB w)(hX:∃X:Sem Value,execOp (ev n f) {dst:=dst,op:=op,type:=ty,pos:=pos,after:=after,guard:=.none}=(do pure (.value (<-X))))
 (hO:∀w',Le wB w'->∀N:Val->World->Prop,N (upd f d v) w'->O P n [{dst:=dst,op:=op,type:=ty,pos:=pos,after:=after,guard:=.none}] [{dst:=dst,op:=op,type:=ty,pos:=pos,after:=after,guard:=.none}] N (λ_ _=>False) f w')
 (h:D P n l (listed.setIfInBounds i true) N Z wB fuel (upd f d v) w)(hk:(Region.noSelect l.toArray&&Region.free .any l.toArray listed i&&(Region.ready .any l.toArray listed).contains i)=true:=by kernel_rfl):D P n l listed N Z wB (fuel+1) f w:=
 D.takeYes hi hd hdn hk hj hv hS hX hO h
theorem D.step {listed:Array Bool}{fuel j:Nat}{o:Oper}(hi:l[j]? =some o)(hg:o.guard=.none)
 (hO:O P n [o] [o] (λf' w'=>Le wB w'∧D P n l (listed.setIfInBounds j true) N Z wB fuel f' w') Z f w):
 wpOp P l.toArray (Q0 n N Z) j (λa' w'=>Le wB w'∧wpAnyH P .any l.toArray (Q0 n N Z) (λw'=>Le wB w') fuel (listed.setIfInBounds j true) a' w') (Fr n f) w:=by
 unfold wpOp;have hi2:l.toArray[j]? =some o:=by simpa using hi
 rw[hi2];unfold O at hO;simp only[wpList,Region.wanted,hg,if_true] at hO ⊢;have key:∀a' w',Q0 n (λf' w'=>Le wB w'∧D P n l (listed.setIfInBounds j true) N Z wB fuel f' w') Z .normal a' w'->Le wB w'∧wpAnyH P .any l.toArray (Q0 n N Z) (λw'=>Le wB w') fuel (listed.setIfInBounds j true) a' w':=by
  rintro a' w' ⟨f',rfl,h1,h2⟩;exact ⟨h1,h2⟩
 rcases hO with h|⟨_,a0,w0,h0⟩
 ·left
  unfold Oper.wp at h ⊢
  generalize (execOp (Fr n f).eval o).run P w=r at h ⊢
  cases r with
  |ok nx w'=>
   cases nx with
   |value v=>exact key _ _ h
   |skip=>exact key _ _ h
   |defer d=>exact key _ _ h
   |enter k args=>
    refine Calls.mono h ?_;intro e w'' he;cases e with
    |returned v=>exact key _ _ he
    |panicked ch=>exact he
    |outgrown=>obtain ⟨a0,w0,h0⟩:=he;exact h0.elim
   |row r args=>exact Rows.mono h λv w'' hv=>key _ _ hv
   |_=>exact h.elim
  |halt hh w'=>cases hh<;>first|exact h|exact h.elim
 ·exact h0.elim
theorem D.one {listed:Array Bool}{fuel i:Nat}{o:Oper}(hi:l[i]? =some o)(hg:o.guard=.none)(hr:Region.ready .any l.toArray listed=[i])
 (hO:O P n [o] [o] (λf' w'=>Le wB w'∧D P n l (listed.setIfInBounds i true) N Z wB fuel f' w') Z f w):D P n l listed N Z wB (fuel+1) f w:=by
 refine wpAnyH_all hr (by simp) ?_;intro j hj;obtain rfl:j=i:=by simpa using hj
 exact D.step hi hg hO
theorem D.on {listed:Array Bool}{fuel:Nat}{o:Oper}(i:Nat)(hi:l[i]? =some o)(hg:o.guard=.none)
 (hO:O P n [o] [o] (λf' w'=>Le wB w'∧D P n l (listed.setIfInBounds i true) N Z wB fuel f' w') Z f w)(hr:Region.ready .any l.toArray listed=[i]:=by kernel_rfl):D P n l listed N Z wB (fuel+1) f w:=D.one hi hg hr hO
theorem D.dn {listed:Array Bool}{fuel:Nat}(h:N f w)(hr:Region.ready .any l.toArray listed=[]:=by kernel_rfl):D P n l listed N Z wB fuel f w:=D.done hr h
end
end Go.Pn
end
section
namespace Go.Pn
section
variable {P:Program}{n:Nat}{ops rest l:List Oper}{N:Val->World->Prop}{Z:List PanicEntry->World->Prop}{f:Val}{w wB:World}
 {d:Nat}{x y:Operand}{t t' e tr ty:TypeId}{pos:String}{after:Array Edge}{α:Type}{E:Enc α}{F:Nat->Prop}
theorem Sl.at {i:Int}{s:Nat}{v:Value}{xs:List α}(ht:P.underlying t=some (.slice e))(hsz:∀w,(sizeOf e).run P w=.ok s w)(hs:E.sz=s)(hv:Sl E w F v xs)(hi:0<=i∧i<xs.length):
 ∃a,At E w F a (xs[i.toNat]'(by omega))∧∀w',(Instr.indexAt t v (i64 i)).run P w'=.ok (.pointer (some a)) w':=by
 obtain ⟨b,off,cap,rfl,hat⟩:=hv.elem (i:=i.toNat) (by omega);refine ⟨_,hat,λw'=>?_⟩
 simp[Instr.indexAt,asIntOf,run_underlying ht,hi.1,hi.2,hsz,Addr.add_none,hs]
theorem O.idxR {i:Int}{v:Value}{a:Addr}(hx:ev n f x=v)(hy:ev n f y=i64 i)(hr:∀w',(Instr.indexAt t v (i64 i)).run P w'=.ok (.pointer (some a)) w')(h:O P n ops rest N Z (upd f d (.pointer (some a))) w):
 O P n ops (ZO d (.indexAddr t x y) ty pos after::rest) N Z f w:=by
 refine O.val rfl rfl ?_ h;have h3:execOp (ev n f) (ZO d (.indexAddr t x y) ty pos after)=(do pure (.value (<-Instr.indexAt t (ev n f x) (ev n f y)))):=rfl;rw[h3,Sem.run_bind,hx,hy,hr]
 rfl
theorem D.takeNo {listed:Array Bool}{fuel i:Nat}{dst:Option Nat}{op:Op}{j dj:Nat}{b:Bool}{d:Nat}
 (hi:l[i]? =some {dst:=dst,op:=op,type:=ty,pos:=pos,after:=after,guard:=some (j,b)})(hd:dst=some d)
 (hk:(Region.noSelect l.toArray&&Region.free .any l.toArray listed i&&(Region.ready .any l.toArray listed).contains i)=true)
 (hS:Le wB w)(hj:(l[j]?).bind (·.dst)=some dj)(hv:isB b (ev n f (.tmp dj))=false)
 (h:D P n l (listed.setIfInBounds i true) N Z wB fuel (upd f d undef) w):D P n l listed N Z wB (fuel+1) f w:=by
 simp only[Bool.and_eq_true] at hk;have hy0:(yielded l.toArray (Fr n f).tmps j==some b)=false:=by
  have hd:=getD_Fr n f dj;unfold yielded;have h1:(l.toArray[j]?).bind (·.dst)=some dj:=by simpa using hj
  rw[h1];simp only[Option.bind_some];rw[Array.getD_eq_getD_getElem?] at hd;cases hx:(Fr n f).tmps[dj]? with
  |none=>rfl
  |some v=>
   rw[hx] at hd;simp only[Option.getD_some] at hd;rw[<-hd] at hv;cases v<;>first|rfl|(simp only[isB] at hv;simpa using hv)
 have hy:YieldsIf P l.toArray (λw'=>Le wB w') {dst:=dst,op:=op,type:=ty,pos:=pos,after:=after,guard:=some (j,b)} undef (Fr n f):=
  .inr ⟨by simp only[Region.wanted];exact hy0,rfl⟩
 refine wpAnyH_take (i:=i) (v:=undef) (by simpa using hi) hk.1.1 hk.1.2 hk.2 (Q0_put _ _) hy hS ?_;simp only[hd];rw[put_Fr];exact h
theorem D.tn {listed:Array Bool}{fuel:Nat}{dst:Option Nat}{op:Op}{j dj:Nat}{b:Bool}{d:Nat}(i:Nat)
 (hi:l[i]? =some {dst:=dst,op:=op,type:=ty,pos:=pos,after:=after,guard:=some (j,b)})(hd:dst=some d)
 (hS:Le wB w)(hj:(l[j]?).bind (·.dst)=some dj)(hv:isB b (ev n f (.tmp dj))=false)
 (h:D P n l (listed.setIfInBounds i true) N Z wB fuel (upd f d undef) w)(hk:(Region.noSelect l.toArray&&Region.free .any l.toArray listed i&&(Region.ready .any l.toArray listed).contains i)=true:=by kernel_rfl):D P n l listed N Z wB (fuel+1) f w:=
 D.takeNo hi hd hk hS hj hv h
theorem D.splitD {listed:Array Bool}{fuel:Nat}{p:Prop}[Decidable p](_hx:ev n f x=.bool (decide p))(h1:p->D P n l listed N Z wB fuel f w)(h2:¬p->D P n l listed N Z wB fuel f w):D P n l listed N Z wB fuel f w:=by
 by_cases h:p
 ·exact h1 h
 ·exact h2 h
theorem D.cast {listed:Array Bool}{fuel:Nat}{v v':Value}(hv:v=v')(h:D P n l listed N Z wB fuel (upd f d v') w):D P n l listed N Z wB fuel (upd f d v) w:=hv ▸ h
theorem len_form:∃X:Sem Value,execOp (ev n f) (ZO d (.call {callee:=.builtin .len,args:=[x].toArray,argTypes:=[t].toArray}) ty pos after)=(do pure (.value (<-X))):=by
 refine ⟨Builtin.len_ #[t] ty #[ev n f x],?_⟩
 simp[execOp,resolve,invoke,builtin]
theorem pick_form {c a b:Operand}{g:Option (Nat×Bool)}:∃X:Sem Value,execOp (ev n f) {dst:=some d,op:=.pick c a b,type:=ty,pos:=pos,after:=after,guard:=g}=(do pure (.value (<-X))):=by
 refine ⟨do pure (if <-asBool (ev n f c) then ev n f a else ev n f b),?_⟩;show (do pure (.value (if <-asBool (ev n f c) then ev n f a else ev n f b)):Sem Next)=_;cases ev n f c<;>rfl
def ford (a b:BitVec 64):Option Ordering:=FloatKind.f64.format.order a.toNat b.toNat
def feq (a b:BitVec 64):Prop:=ford a b=some .eq
def flt (a b:BitVec 64):Prop:=ford a b=some .lt
def fgt (a b:BitVec 64):Prop:=ford a b=some .gt
instance (a b:BitVec 64):Decidable (feq a b):=inferInstanceAs (Decidable (ford a b=some .eq))
instance (a b:BitVec 64):Decidable (flt a b):=inferInstanceAs (Decidable (ford a b=some .lt))
instance (a b:BitVec 64):Decidable (fgt a b):=inferInstanceAs (Decidable (ford a b=some .gt))
variable {a b:BitVec 64}
end
end Go.Pn
end
section
namespace Go.Pn
section
variable
 {d:Nat}{x:Operand}{t e tr:TypeId}{pos:String}{after:Array Edge}
theorem O.lit1 {ie:TypeInfo}{z v:Value}(hu:P.underlying t=some (.slice e))(hie:P.info? e=some ie)(hsz:ie.size=1)(hz:ie.zero=some z)(hx:ev n f x=v)(h1:v.oneCell'=true)
 (h:∀b w',w.heap.size<=b->Own0 w' b e [v]->Le w w'->O P n ops rest N Z (upd f d (.slice (some ⟨b,0,none⟩) 1 1)) w'):
 O P n ops (ZO d (.buildSlice t 1 [(0,x)].toArray) tr pos after::rest) N Z f w:=by
 have hcells:v.cells=#[v]:=by cases v<;>first|rfl|simp[Value.oneCell'] at h1
 refine O.lit (vs:=[(0,v)]) (cells:=#[v]) hu hie hz (by rw[hsz];decide) (by rw[hsz];decide) (by simp[hx]) ?_ h;rw[hsz]
 simp[Instr.fill,hcells]
 have hr:Array.range 1=#[0]:=rfl;rw[hr]
 simp
end
theorem Sl.one {α:Type}{G:Flat α}{w:World}{b:Nat}{ty:TypeId}{x:α}{v:Value}(h:Own w b ty [v])(hv:G.e x=[v])(h1:G.sz=1):Sl G.enc w (λk=>k=b) (.slice (some ⟨b,0,none⟩) 1 1) [x]:=
 Sl.of_own (xs:=[x]) h (by simp[h1,hv]) (by simp) (by unfold maxLen;omega) (by simp[h1])
end Go.Pn
end
section
namespace Go.Pn
section
variable {P:Program}{n:Nat}{ops rest:List Oper}{N:Val->World->Prop}{Z:List PanicEntry->World->Prop}{f:Val}{w wB:World}
 {d:Nat}{x:Operand}{t e tr:TypeId}{pos:String}{after:Array Edge}{α:Type}{E:Enc α}{F:Nat->Prop}
theorem Sl.sub {s:Nat}{v:Value}{xs:List α}(lo hi:Nat)(ht:P.underlying t=some (.slice e))(hsz:∀w,(sizeOf e).run P w=.ok s w)(hs:E.sz=s)(hv:Sl E w F v xs)(h1:lo<=hi)(h2:hi<=xs.length):
 ∃v',Sl E w F v' ((xs.take hi).drop lo)∧∀low high:Option Value,((low=.none∧lo=0)∨∃k,low=some (.int k lo))->((high=.none∧hi=xs.length)∨∃k,high=some (.int k hi))->
  ∀w',(Instr.sliceAt t v low high .none).run P w'=.ok v' w':=by
 have hlen:((xs.take hi).drop lo).length=hi-lo:=by simp;omega
 have run:∀(a:Option Addr) (cap:Nat),v=.slice a xs.length cap->xs.length<=cap->∀low high:Option Value,((low=.none∧lo=0)∨∃k,low=some (.int k lo))->((high=.none∧hi=xs.length)∨∃k,high=some (.int k hi))->
  ∀w',(Instr.sliceAt t v low high .none).run P w'=.ok (.slice (if cap=lo then a else a.map (·.add (lo*s))) (hi-lo) (cap-lo)) w':=by
  rintro a cap rfl hc low high hlo hhi w';have hbl:∀(k:IntKind) (x:Nat) (y:Nat) (c:BoundsCode),x<=y->(Instr.sliceBound (.int k (x:Int)) y c).run P w'=.ok x w':=by
   intro k x y c h1;have:(x:Int)<=y:=by omega
   simp[Instr.sliceBound,asIntOf,this]
  unfold Instr.sliceAt;rw[Sem.run_bind,run_underlying ht,Result.andThen_ok];simp only[];unfold Instr.slice;rw[Sem.run_bind,run_underlying ht,Result.andThen_ok];simp only[Instr.sliceBounds];rcases hhi with ⟨rfl,rfl⟩|⟨k,rfl⟩<;>rcases hlo with ⟨rfl,rfl⟩|⟨k',rfl⟩
  ·simp [hsz]
  ·have h6:=hbl k' lo xs.length .sliceB h1
   simp[hsz,h6]
  ·have h5:=hbl k hi cap .sliceAcap (by omega)
   simp[hsz,h5]
  ·have h5:=hbl k hi cap .sliceAcap (by omega)
   have h6:=hbl k' lo hi .sliceB h1
   simp[hsz,h5,h6]
 rcases hv.2 with ⟨a0,rfl,rfl⟩|⟨b,off,cap,cur,ty,fr,rfl,hF,hb,hc1,hc2,hc3,hr⟩
 ·have e1:lo=0:=by simp at h2;omega
  have e2:hi=0:=by simpa using h2
  subst e1;subst e2;exact ⟨.slice a0 0 0,⟨by simp,.inl ⟨a0,rfl,by simp⟩⟩,by simpa using run a0 0 rfl (by simp)⟩
 ·refine ⟨_,?_,run (some ⟨b,off,none⟩) cap rfl hc1⟩
  by_cases hq:cap=lo
  ·rw [if_pos hq]
   have e0:(xs.take hi).drop lo=[]:=List.eq_nil_of_length_eq_zero (by rw[hlen];omega);rw[e0];refine ⟨by simp,.inr ⟨b,off,cap-lo,cur,ty,fr,by simp;omega,hF,hb,by simp,by omega,by simp,by simp⟩⟩
  ·rw [if_neg hq]
   simp only[Option.map_some,Addr.add_none];refine ⟨by have:=hv.1;omega,.inr ⟨b,off+lo*s,cap-lo,cur,ty,fr,by rw[hlen],hF,hb,by omega,by omega,?_,?_⟩⟩
   ·intro h0
    have h3:=hc3 (by omega);rw[hs] at h3 ⊢;have h4:lo*s+(cap-lo)*s=cap*s:=by rw[<-Nat.add_mul];congr 1;omega
    omega
   ·intro i hi2
    have h5:lo+i<xs.length:=by omega
    have h6:=hr (lo+i) h5;have e1:((xs.take hi).drop lo)[i]=xs[lo+i]:=by simp
    rw[e1];have e2:off+lo*s+i*E.sz=off+(lo+i)*E.sz:=by rw[hs,Nat.add_mul];omega
    rw[e2];exact h6
theorem O.subR {lo hi:Nat}{v v':Value}{xs:List α}{ol oh:Option Operand}(hx:ev n f x=v)
 (hr:∀low high:Option Value,((low=.none∧lo=0)∨∃k,low=some (.int k lo))->((high=.none∧hi=xs.length)∨∃k,high=some (.int k hi))->∀w',(Instr.sliceAt t v low high .none).run P w'=.ok v' w')
 (hlo:(ol=.none∧lo=0)∨∃z k,ol=some z∧ev n f z=.int k lo)(hhi:(oh=.none∧hi=xs.length)∨∃z k,oh=some z∧ev n f z=.int k hi)
 (h:O P n ops rest N Z (upd f d v') w):
 O P n ops (ZO d (.slice t x ol oh .none) tr pos after::rest) N Z f w:=by
 refine O.val rfl rfl ?_ h;have h3:execOp (ev n f) (ZO d (.slice t x ol oh .none) tr pos after)=(do pure (.value (<-Instr.sliceAt t (ev n f x) (ol.map (ev n f)) (oh.map (ev n f)) .none))):=rfl;have h4:=hr (ol.map (ev n f)) (oh.map (ev n f))
  (by rcases hlo with ⟨rfl,e⟩|⟨z,k,rfl,e⟩
      ·exact .inl ⟨rfl,e⟩
      ·exact .inr ⟨k,by simp[e]⟩)
  (by rcases hhi with ⟨rfl,e⟩|⟨z,k,rfl,e⟩
      ·exact .inl ⟨rfl,e⟩
      ·exact .inr ⟨k,by simp[e]⟩) w
 rw[h3,Sem.run_bind,hx,h4]
 rfl
theorem D.oneYes {l:List Oper}{listed:Array Bool}{fuel i:Nat}{dst:Option Nat}{op:Op}{ty:TypeId}{j dj:Nat}{b:Bool}
 (hi:l[i]? =some {dst:=dst,op:=op,type:=ty,pos:=pos,after:=after,guard:=some (j,b)})(hj:(l[j]?).bind (·.dst)=some dj)(hv:ev n f (.tmp dj)=.bool b)(hr:Region.ready .any l.toArray listed=[i])
 (hO:O P n [{dst:=dst,op:=op,type:=ty,pos:=pos,after:=after,guard:=.none}] [{dst:=dst,op:=op,type:=ty,pos:=pos,after:=after,guard:=.none}] (λf' w'=>Le wB w'∧D P n l (listed.setIfInBounds i true) N Z wB fuel f' w') Z f w):D P n l listed N Z wB (fuel+1) f w:=by
 refine wpAnyH_all hr (by simp) ?_;intro i' hi';obtain rfl:i'=i:=by simpa using hi'
 have hy0:yielded l.toArray (Fr n f).tmps j=some b:=by
  have hd:=getD_Fr n f dj;rw[hv] at hd;unfold yielded;have h1:(l.toArray[j]?).bind (·.dst)=some dj:=by simpa using hj
  rw[h1];simp only[Option.bind_some];rw[Array.getD_eq_getD_getElem?] at hd;cases hx:(Fr n f).tmps[dj]? with
  |none=>rw[hx] at hd;simp[undef] at hd
  |some v=>rw[hx] at hd;simp at hd;subst hd;rfl
 unfold wpOp;have hi2:l.toArray[i']? =some {dst:=dst,op:=op,type:=ty,pos:=pos,after:=after,guard:=some (j,b)}:=by simpa using hi
 rw[hi2];unfold O at hO;simp only[wpList,Region.wanted,if_true,hy0,beq_self_eq_true] at hO ⊢;have key:∀a' w',Q0 n (λf' w'=>Le wB w'∧D P n l (listed.setIfInBounds i' true) N Z wB fuel f' w') Z .normal a' w'->Le wB w'∧wpAnyH P .any l.toArray (Q0 n N Z) (λw'=>Le wB w') fuel (listed.setIfInBounds i' true) a' w':=by
  rintro a' w' ⟨f',rfl,h1,h2⟩;exact ⟨h1,h2⟩
 rcases hO with h|⟨_,a0,w0,h0⟩
 ·left
  unfold Oper.wp at h ⊢;have hex:execOp (Fr n f).eval {dst:=dst,op:=op,type:=ty,pos:=pos,after:=after,guard:=some (j,b)}=execOp (Fr n f).eval {dst:=dst,op:=op,type:=ty,pos:=pos,after:=after,guard:=.none}:=rfl;rw[hex]
  generalize (execOp (Fr n f).eval {dst:=dst,op:=op,type:=ty,pos:=pos,after:=after,guard:=.none}).run P w=r at h ⊢
  cases r with
  |ok nx w'=>
   cases nx with
   |value v=>exact key _ _ h
   |skip=>exact key _ _ h
   |defer d=>exact key _ _ h
   |enter k args=>
    refine Calls.mono h ?_;intro e w'' he;cases e with
    |returned v=>exact key _ _ he
    |panicked ch=>exact he
    |outgrown=>obtain ⟨a0,w0,h0⟩:=he;exact h0.elim
   |row r args=>exact Rows.mono h λv w'' hv=>key _ _ hv
   |_=>exact h.elim
  |halt hh w'=>cases hh<;>first|exact h|exact h.elim
 ·exact h0.elim
end
end Go.Pn
end
section
namespace Go.Pn
open Go.RowKit
def isNilS:Value->Bool
 |.slice none _ _=>true
 |_=>false
theorem isNilS_nil {α:Type}{E:Enc α}{w:World}{F:Nat->Prop}{v:Value}{xs:List α}(hv:Sl E w F v xs)(h:isNilS v=true):xs=[]:=by
 rcases hv.2 with ⟨a0,rfl,rfl⟩|⟨b,off,cap,cur,ty,fr,rfl,_⟩
 ·rfl
 ·cases h
section
variable
 {d:Nat}{x:Operand}{t t' e tr:TypeId}{pos:String}{after:Array Edge}{α:Type}{E:Enc α}{F:Nat->Prop}
theorem run_eql_nilS {v:Value}{xs:List α}(ht:P.underlying t=some (.slice e))(hv:Sl E w F v xs):(binOp .eql t v (.slice none 0 0)).run P w=.ok (.bool (isNilS v)) w:=by
 rcases hv.2 with ⟨a0,rfl,rfl⟩|⟨b,off,cap,cur,ty,fr,rfl,_⟩
 ·have h2:binOp .eql t (.slice a0 0 0) (.slice none 0 0)=(do pure (.bool (<-Op.equal t (.slice a0 0 0) (.slice none 0 0)))):=rfl
  have h1:(Op.equal t (.slice a0 0 0) (.slice none 0 0)).run P w=.ok (isNilS (.slice a0 0 0)) w:=by
   unfold Op.equal Op.maxDepth;rw[Op.equalIn,Sem.run_bind,run_underlying ht];cases a0<;>rfl
  rw[h2,Sem.run_bind,h1]
  rfl
 ·have h2:binOp .eql t (.slice (some ⟨b,off,none⟩) xs.length cap) (.slice none 0 0)=(do pure (.bool (<-Op.equal t (.slice (some ⟨b,off,none⟩) xs.length cap) (.slice none 0 0)))):=rfl
  have h1:(Op.equal t (.slice (some ⟨b,off,none⟩) xs.length cap) (.slice none 0 0)).run P w=.ok false w:=by
   unfold Op.equal Op.maxDepth;rw[Op.equalIn,Sem.run_bind,run_underlying ht]
   rfl
  rw[h2,Sem.run_bind,h1]
  rfl
theorem eqGuard_sl {op:BinOp}{y:Operand}{v:Value}{a:Option Addr}{k c:Nat}{xs:List α}(hv:Sl E w F v xs):(eqGuard op t x y v (.slice a k c)).run P w=.ok () w:=by
 rcases hv.2 with ⟨a0,rfl,rfl⟩|⟨b,off,cap,cur,ty,fr,rfl,_⟩<;>cases op<;>rfl
theorem O.eqlNilS {v:Value}{xs:List α}(ht:P.underlying t=some (.slice e))(hx:ev n f x=v)(hv:Sl E w F v xs)(h:O P n ops rest N Z (upd f d (.bool (isNilS v))) w):
 O P n ops (ZO d (.binOp .eql t x (.const (.slice none 0 0)) t') tr pos after::rest) N Z f w:=
 O.val rfl rfl (run_bin hx (y:=.const (.slice none 0 0)) rfl (eqGuard_sl hv) (run_eql_nilS ht hv) _ _) h
end
theorem OwnF.lit0 {α:Type}{G:Flat α}{ty:TypeId}{B:Nat}{w:World}{b:Nat}(h:Own0 w b ty [])(hB:B<=b):OwnF G ty B w (.slice (some ⟨b,0,none⟩) 0 0) []:=
 ⟨⟨by simp,.inr ⟨b,0,#[],rfl,hB,h,by simp,by unfold maxLen;omega,by simp,by simp⟩⟩,by simp⟩
theorem fill_seq:∀(vs:List Value) (k:Nat) (cells:Array Value),cells.size=k+vs.length->(∀v∈vs,v.oneCell'=true)->
 Instr.fill (λi=>some (i*1,1)) cells ((List.range' k vs.length).zip vs)=some (cells.toList.take k++vs).toArray:=by
 intro vs
 induction vs with
 |nil=>
  intro k cells h _;have e:cells.toList.take k=cells.toList:=List.take_of_length_le (by simp at h;simp;omega)
  simp[Instr.fill,e]
 |cons v vs ih=>
  intro k cells h h1;have hv:=h1 v (by simp);have hcells:v.cells=#[v]:=by cases v<;>first|rfl|simp[Value.oneCell'] at hv
  rw[List.length_cons,List.range'_succ,List.zip_cons_cons];unfold Instr.fill;simp only[hcells,Nat.mul_one];rw[if_neg (by simp at h ⊢;omega)];have e:(#[v].zipIdx.foldl (λ(cs:Array Value) (x:Value×Nat)=>cs.setIfInBounds (k+x.2) x.1) cells)=cells.setIfInBounds k v:=by simp
  have h2:=ih (k+1) (cells.setIfInBounds k v) (by rw[Array.size_setIfInBounds,h,List.length_cons];omega) (λu hu=>h1 u (by simp[hu]));simp only[Nat.mul_one] at h2;rw[e,h2];have hk:k<cells.toList.length:=by simp at h ⊢;omega
  have e2:(cells.setIfInBounds k v).toList.take (k+1)=cells.toList.take k++[v]:=by
   rw[Array.toList_setIfInBounds,List.take_succ_eq_append_getElem (by simpa using hk)];have e3:List.take k (cells.toList.set k v)=List.take k cells.toList:=by
    rw[List.take_set,List.set_eq_of_length_le (by simp;omega)]
   rw[e3]
   simp
  rw[e2,List.append_assoc]
  rfl
section
variable
 {d:Nat}{t e tr:TypeId}{pos:String}{after:Array Edge}
theorem O.litn {len:Nat}{parts:List (Nat×Operand)}{ie:TypeInfo}{z:Value}(vs:List Value)(hu:P.underlying t=some (.slice e))(hie:P.info? e=some ie)(hsz:ie.size=1)(hz:ie.zero=some z)(hl:vs.length=len)(hsmall:¬len>2^24)(hpos:¬len=0)
 (hvs:parts.map (λx=>(x.1,ev n f x.2))=(List.range' 0 vs.length).zip vs)(h1:∀v∈vs,v.oneCell'=true)
 (h:∀b w',w.heap.size<=b->Own0 w' b e vs->Le w w'->O P n ops rest N Z (upd f d (.slice (some ⟨b,0,none⟩) len len)) w'):
 O P n ops (ZO d (.buildSlice t len parts.toArray) tr pos after::rest) N Z f w:=by
 refine O.lit (cells:=vs.toArray) hu hie hz (by rw[hsz,Nat.mul_one];exact hsmall) (by rw[hsz,Nat.mul_one];exact hpos) hvs ?_ (by simpa using h);rw[hsz,fill_seq vs 0 _ (by simp[hl]) h1]
 simp
end
section
variable
 {d:Nat}{x:Operand}{t tr:TypeId}{pos:String}{after:Array Edge}
theorem O.negI {a:Int}(hx:ev n f x=i64 a)(ha:InI (-a))(h:O P n ops rest N Z (upd f d (i64 (-a))) w):
 O P n ops (ZO d (.unOp .neg t x) tr pos after::rest) N Z f w:=
 O.val rfl rfl (by
  have e:IntKind.i64.wrap (0-a)= -a:=by rw[Int.zero_sub];exact wrap_in ha
  simp only[execOp,hx,i64,Op.unary,Op.intArith,e]
  rfl) h
end
theorem OwnF.ptr {α:Type}{G:Flat α}{ty:TypeId}{B:Nat}{w:World}{v:Value}{xs:List α}(h:OwnF G ty B w v xs)(hne:0<xs.length):∃g cap,v=.slice (some ⟨g,0,none⟩) xs.length cap:=by
 obtain ⟨g,cap,_,hv,_⟩:=h.block hne;exact ⟨g,cap,hv⟩
theorem OwnF.set {α:Type}{G:Flat α}{ty:TypeId}{B:Nat}{w:World}{g cap i:Nat}{xs:List α}{x:α}{u:Value}(hG:∀x,(G.e x).length=1)(hu:G.e x=[u])(h:OwnF G ty B w (.slice (some ⟨g,0,none⟩) xs.length cap) xs)(hi:i<xs.length):
 OwnF G ty B (w.setCell ⟨g,i,none⟩ u) (.slice (some ⟨g,0,none⟩) xs.length cap) (xs.set i x):=by
 obtain ⟨h0,hm⟩:=h;refine ⟨⟨by rw[G.length],?_⟩,by rw[List.length_set];exact hm⟩;rcases h0.2 with ⟨h1,_⟩|⟨g',cap',cur,h1,hb,hg,hn,hc,hsz,ht⟩
 ·cases h1
 ·have e1:g=g':=by cases h1;rfl
  have e2:cap=cap':=by cases h1;rfl
  subst e1;subst e2;have hset:∀(ys:List α) (j:Nat),j<ys.length->(ys.set j x).flatMap G.e=(ys.flatMap G.e).set j u:=by
   intro ys
   induction ys with
   |nil=>intro j hj;simp at hj
   |cons y ys ih=>
    intro j hj;obtain ⟨c,hc⟩:∃c,G.e y=[c]:=by
     have:=hG y
     match hq:G.e y,this with
     |[c],_=>exact ⟨c,rfl⟩
    cases j with
    |zero=>simp[hu,hc]
    |succ j=>simp[hc,ih j (by simpa using hj)]
  refine .inr ⟨g,cap,(cur.toList.set i u).toArray,by rw[List.length_set],hb,?_,by rw[List.length_set];exact hn,hc,by simpa using hsz,?_⟩
  ·have h5:=heap_set w g i u (cs:=cur.toList) (ty:=ty) (fr:=(0,0)) (by simpa using hg)
   exact h5
  ·rw [List.length_set,hset xs i hi,<-ht]
   simp only[List.take_set]
section
variable
 {x y:Operand}{t tr:TypeId}{pos:String}{after:Array Edge}
theorem O.storeF {α:Type}{G:Flat α}{ty:TypeId}{B g cap i:Nat}{xs:List α}(z:α){u:Value}(hsz:∀w,(sizeOf t).run P w=.ok 1 w)(hs:G.sz=1)(hG:∀x,(G.e x).length=1)(hu:G.e z=[u])(hx:ev n f x=.pointer (some ⟨g,i,none⟩))(hy:ev n f y=u)
 (ho:OwnF G ty B w (.slice (some ⟨g,0,none⟩) xs.length cap) xs)(hi:i<xs.length)
 (h:∀w',OwnF G ty B w' (.slice (some ⟨g,0,none⟩) xs.length cap) (xs.set i z)->Ext (λk=>k=g) w w'->w'.heap.size=w.heap.size->O P n ops rest N Z f w'):
 O P n ops ({dst:=.none,op:=.store t x y,type:=tr,pos:=pos,after:=after,guard:=.none}::rest) N Z f w:=by
 have h1:u.oneCell'=true:=G.one z u (by rw[hu];simp);obtain ⟨g',cap',cs,hv,hown,hcs,hn,_,hc3,_⟩:=ho.block (by omega);have e1:g=g':=by cases hv;rfl
 have e2:cap=cap':=by cases hv;rfl
 subst e1;subst e2;refine O.act rfl rfl ?_ (h (w.setCell ⟨g,i,none⟩ u) (ho.set hG hu hi) (Ext.set w ⟨g,i,none⟩ u) (by simp));have h3:execOp (ev n f) {dst:=.none,op:=.store t x y,type:=tr,pos:=pos,after:=after,guard:=.none}=(do Instr.storeAt t (ev n f x) (ev n f y);pure .skip):=rfl;rw[h3,Sem.run_bind,hx,hy];have hcells:u.cells=#[u]:=by cases u<;>first|rfl|simp[Value.oneCell'] at h1
 have hlt:i<cs.length:=by rw[hs,Nat.mul_one] at hc3;omega
 have hc:=hown.cell (i:=i) (v:=cs[i]) (by simp);have hf:=hown.free hlt;have h4:(Instr.storeAt t (.pointer (some ⟨g,i,none⟩)) u).run P w=.ok () (w.setCell ⟨g,i,none⟩ u):=by
  simp[Instr.storeAt,Instr.sureAddr,storeVar,hsz,hcells,storeCells,Addr.add,run_store P w ⟨g,i,none⟩ u .plain h1,hc,hf]
 rw[h4]
 rfl
end
section
variable
 {d:Nat}{x y:Operand}{t t' tr:TypeId}{pos:String}{after:Array Edge}{α:Type}{G:Flat α}{F:Nat->Prop}
theorem O.fieldAd {fields:Array Field}{fd:Field}{k s b o:Nat}(ht:P.underlying t=some (.struct fields))(hf:fields[k]? =some fd)(hs:∀w,(sizeOf fd.type).run P w=.ok s w)(h0:s≠0)(hx:ev n f x=.pointer (some ⟨b,o,none⟩))
 (h:O P n ops rest N Z (upd f d (.pointer (some ⟨b,o+fd.offset,none⟩))) w):O P n ops (ZO d (.fieldAddr t x k) tr pos after::rest) N Z f w:=by
 refine O.val rfl rfl ?_ h;have h3:execOp (ev n f) (ZO d (.fieldAddr t x k) tr pos after)=(do pure (.value (<-Instr.fieldAt t (ev n f x) k))):=rfl;rw[h3,Sem.run_bind,hx];have h4:(Instr.fieldAt t (.pointer (some ⟨b,o,none⟩)) k).run P w=.ok (.pointer (some ⟨b,o+fd.offset,none⟩)) w:=by
  unfold Instr.fieldAt;rw[Sem.run_bind,run_underlying ht,Result.andThen_ok]
  simp[hf,Instr.sureAddr,fieldPlace,hs,h0,Addr.add_none]
 rw[h4]
 rfl
theorem O.fa {fields:Array Field}{fd:Field}{k s b o:Nat}(ht:P.underlying t=some (.struct fields))(hf:fields[k]? =some fd)(hs:∀w,(sizeOf fd.type).run P w=.ok s w)(hx:ev n f x=.pointer (some ⟨b,o,none⟩))
 (h:O P n ops rest N Z (upd f d (.pointer (some ⟨b,o+fd.offset,none⟩))) w)(h0:s≠0:=by decide):O P n ops (ZO d (.fieldAddr t x k) tr pos after::rest) N Z f w:=O.fieldAd ht hf hs h0 hx h
theorem run_load_flat {a:Addr}{z:α}(ha:At G.enc w F a z):(loadCells a G.sz).run P w=.ok (G.e z).toArray w:=by
 obtain ⟨b,off,cur,ty,fr,rfl,hF,hb,hs,hr⟩:=ha;have hr':(cur.toList.drop off).take G.sz=G.e z:=hr;rw[<-G.len z];refine run_loadCells_list w ⟨b,off,none⟩ (G.e z) λj v hj=>?_
 rw[Addr.add_none];rw[<-hr',List.getElem?_take] at hj
 split at hj
 ·rw [List.getElem?_drop] at hj
  simp only[World.cell?,hb,Option.isSome_none,Bool.false_eq_true,if_false]
  simpa using hj
 ·cases hj
theorem O.loadG {a:Addr}{z:α}(hag:∀w,(isAgg t).run P w=.ok true w)(hs:∀w,(sizeOf t).run P w=.ok G.sz w)(hx:ev n f x=.pointer (some a))(ha:At G.enc w F a z)
 (h:O P n ops rest N Z (upd f d (.agg (G.e z).toArray)) w):O P n ops (ZO d (.load t x) tr pos after::rest) N Z f w:=by
 refine O.val rfl rfl ?_ h;have h3:execOp (ev n f) (ZO d (.load t x) tr pos after)=(do pure (.value (<-Instr.loadAt t (ev n f x)))):=rfl;rw[h3,Sem.run_bind,hx];have h4:(Instr.loadAt t (.pointer (some a))).run P w=.ok (.agg (G.e z).toArray) w:=by
  simp[Instr.loadAt,Instr.sureAddr,loadVar,hag,hs,run_load_flat (P:=P) ha]
 rw[h4]
 rfl
theorem O.loadOA {b o s:Nat}{ty:TypeId}{cs:List Value}(hag:∀w,(isAgg t).run P w=.ok true w)(hs:∀w,(sizeOf t).run P w=.ok s w)(hx:ev n f x=.pointer (some ⟨b,o,none⟩))(ho:Own w b ty cs)(hlt:o+s<=cs.length)
 (h:O P n ops rest N Z (upd f d (.agg ((cs.drop o).take s).toArray)) w):O P n ops (ZO d (.load t x) tr pos after::rest) N Z f w:=by
 refine O.val rfl rfl ?_ h;have h3:execOp (ev n f) (ZO d (.load t x) tr pos after)=(do pure (.value (<-Instr.loadAt t (ev n f x)))):=rfl;rw[h3,Sem.run_bind,hx];have hl:((cs.drop o).take s).length=s:=by simp;omega
 have hr:(loadCells ⟨b,o,none⟩ s).run P w=.ok ((cs.drop o).take s).toArray w:=by
  have h5:=run_loadCells_list (P:=P) w ⟨b,o,none⟩ ((cs.drop o).take s) λj v hj=>by
   rw[Addr.add_none];rw[List.getElem?_take] at hj
   split at hj
   ·rw [List.getElem?_drop] at hj;exact ho.cell hj
   ·cases hj
  rwa [hl] at h5
 have h4:(Instr.loadAt t (.pointer (some ⟨b,o,none⟩))).run P w=.ok (.agg ((cs.drop o).take s).toArray) w:=by
  simp[Instr.loadAt,Instr.sureAddr,loadVar,hag,hs,hr]
 rw[h4]
 rfl
theorem O.build {parts:List (Nat×Operand)}{vs:List (Nat×Value)}{cells:Array Value}(hvs:parts.map (λx=>(x.1,ev n f x.2))=vs)(hb:P.built t vs=some cells)(h:O P n ops rest N Z (upd f d (.agg cells)) w):
 O P n ops (ZO d (.build t parts.toArray) tr pos after::rest) N Z f w:=by
 refine O.val rfl rfl ?_ h;have h3:execOp (ev n f) (ZO d (.build t parts.toArray) tr pos after)=(do pure (.value (<-Instr.build t (parts.toArray.map λx=>(x.1,ev n f x.2))))):=rfl;rw[h3,Sem.run_bind,run_build w t _ cells (by simpa[hvs] using hb)]
 rfl
end
theorem run_storeCells_own {P:Program}{b:Nat}{ty:TypeId}:∀(vs:List Value) (o i:Nat) (cs:List Value) (w:World),Own w b ty cs->o+i+vs.length<=cs.length->(∀v∈vs,v.oneCell'=true)->
 ∃w',(storeCells ⟨b,o,none⟩ vs i).run P w=.ok () w'∧Own w' b ty (cs.take (o+i)++vs++cs.drop (o+i+vs.length))∧Ext (λk=>k=b) w w'∧w'.heap.size=w.heap.size:=by
 intro vs
 induction vs with
 |nil=>
  intro o i cs w ho _ _;exact ⟨w,rfl,by simpa using ho,Ext.L _ _,rfl⟩
 |cons v vs ih=>
  intro o i cs w ho hl h1;have hl':o+i<cs.length:=by simp at hl;omega
  have hv:=h1 v (by simp);have hc:=ho.cell (i:=o+i) (v:=cs[o+i]) (by simp);have hf:=ho.free hl';have ho':=ho.set (o+i) v;obtain ⟨w',hr,ho2,he,hs⟩:=ih o (i+1) (cs.set (o+i) v) _ ho' (by simp at hl ⊢;omega) (λu hu=>h1 u (by simp[hu]));refine ⟨w',?_,?_,(Ext.set w ⟨b,o+i,none⟩ v).trans he,by rw[hs];simp⟩
  ·have e:storeCells ⟨b,o,none⟩ (v::vs) i=(do store ((⟨b,o,none⟩:Addr).add i) v;storeCells ⟨b,o,none⟩ vs (i+1)):=rfl
   rw[e,Sem.run_bind,Addr.add_none];have hst:(store ⟨b,o+i,none⟩ v).run P w=.ok () (w.setCell ⟨b,o+i,none⟩ v):=by
    have:=run_store P w ⟨b,o+i,none⟩ v .plain hv
    simpa[hc,hf] using this
   rw[hst,Result.andThen_ok,hr]
  ·have e1:(cs.set (o+i) v).take (o+(i+1))=cs.take (o+i)++[v]:=by
    rw[show o+(i+1)=o+i+1 by omega,List.take_succ_eq_append_getElem (by simpa using hl')];rw[List.take_set,List.set_eq_of_length_le (by simp;omega)]
    simp
   have e2:(cs.set (o+i) v).drop (o+(i+1)+vs.length)=cs.drop (o+i+(vs.length+1)):=by
    rw[List.drop_set_of_lt (by omega)]
    congr 1
    omega
   rw[e1,e2] at ho2
   simpa using ho2
section
variable
 {x y:Operand}{t ty tr:TypeId}{pos:String}{after:Array Edge}
theorem O.storeA {b o s:Nat}{cs vs:List Value}(hsz:∀w,(sizeOf t).run P w=.ok s w)(hl:vs.length=s)(hx:ev n f x=.pointer (some ⟨b,o,none⟩))(hy:ev n f y=.agg vs.toArray)(h1:∀v∈vs,v.oneCell'=true)(ho:Own w b ty cs)(hlt:o+s<=cs.length)
 (h:∀w',Own w' b ty (cs.take o++vs++cs.drop (o+s))->Ext (λk=>k=b) w w'->w'.heap.size=w.heap.size->O P n ops rest N Z f w'):
 O P n ops ({dst:=.none,op:=.store t x y,type:=tr,pos:=pos,after:=after,guard:=.none}::rest) N Z f w:=by
 subst hl;obtain ⟨w',hr,ho',he,hs⟩:=run_storeCells_own (P:=P) vs o 0 cs w ho (by simpa using hlt) h1;refine O.act rfl rfl ?_ (h w' (by simpa using ho') he hs);have h3:execOp (ev n f) {dst:=.none,op:=.store t x y,type:=tr,pos:=pos,after:=after,guard:=.none}=(do Instr.storeAt t (ev n f x) (ev n f y);pure .skip):=rfl;rw[h3,Sem.run_bind,hx,hy];have h4:(Instr.storeAt t (.pointer (some ⟨b,o,none⟩)) (.agg vs.toArray)).run P w=.ok () w':=by
  simp[Instr.storeAt,Instr.sureAddr,storeVar,hsz,Value.cells,hr]
 rw[h4]
 rfl
end
end Go.Pn
end
section
namespace Go.Pn
open Go.RowKit
section
variable {P:Program}{n:Nat}{ops rest:List Oper}{N:Val->World->Prop}{X:Nat->Val->World->Prop}{R:Val->World->Prop}{Z:List PanicEntry->World->Prop}{f:Val}{w:World}
 {d:Nat}{x y:Operand}{t t' e tr:TypeId}{pos:String}{after:Array Edge}
end
theorem Outs.cellA {P:Program}{fn:Func}{n:Nat}{Post:Value->World->Prop}{f:Val}{w:World}{t s b:Nat}{ty ty':TypeId}{cs:List Value}(hr:fn.results=#[.cell t ty])(hag:∀w,(isAgg ty).run P w=.ok true w)(hs:∀w,(sizeOf ty).run P w=.ok s w)
 (hv:ev n f (.tmp t)=.pointer (some ⟨b,0,Option.none⟩))(ho:Own w b ty' cs)(hl:cs.length=s)(h:Post (.agg cs.toArray) w):Outs P fn n Post f w:=by
 refine ⟨_,?_,h⟩;have hc:(loadCells ⟨b,0,Option.none⟩ s).run P w=.ok cs.toArray w:=by
  have:=run_loadCells_list (P:=P) w ⟨b,0,Option.none⟩ cs λj v hj=>by rw[Addr.add_none,Nat.zero_add];exact ho.cell hj
  rwa [hl] at this
 have hg:(Fr n f).tmps.getD t undef=.pointer (some ⟨b,0,Option.none⟩):=(getD_Fr n f t).trans hv
 simp[results,hr,-Array.getD_eq_getD_getElem?,hg,asAddr,loadVar,hag,hs,hc]
theorem Outs.cellA2 {P:Program}{fn:Func}{n:Nat}{Post:Value->World->Prop}{f:Val}{w:World}{t u s b:Nat}{ty ty':TypeId}{cs:List Value}{v':Value}(hr:fn.results=#[.cell t ty,.tmp u])(hag:∀w,(isAgg ty).run P w=.ok true w)(hs:∀w,(sizeOf ty).run P w=.ok s w)
 (hv:ev n f (.tmp t)=.pointer (some ⟨b,0,Option.none⟩))(hv':ev n f (.tmp u)=v')(ho:Own w b ty' cs)(hl:cs.length=s)(h:Post (.tuple #[.agg cs.toArray,v']) w):Outs P fn n Post f w:=by
 refine ⟨_,?_,h⟩;have hc:(loadCells ⟨b,0,Option.none⟩ s).run P w=.ok cs.toArray w:=by
  have:=run_loadCells_list (P:=P) w ⟨b,0,Option.none⟩ cs λj v hj=>by rw[Addr.add_none,Nat.zero_add];exact ho.cell hj
  rwa [hl] at this
 have hg:(Fr n f).tmps.getD t undef=.pointer (some ⟨b,0,Option.none⟩):=(getD_Fr n f t).trans hv;have hg':(Fr n f).tmps.getD u undef=v':=(getD_Fr n f u).trans hv'
 simp[results,hr,-Array.getD_eq_getD_getElem?,hg,hg',asAddr,loadVar,hag,hs,hc]
theorem foldl_sets (off:Nat):∀(vs:List Value) (i:Nat) (cs:Array Value),off+i+vs.length<=cs.size->
 ((vs.zipIdx i).foldl (λ(cs:Array Value) (x:Value×Nat)=>cs.setIfInBounds (off+x.2) x.1) cs).toList=cs.toList.take (off+i)++vs++cs.toList.drop (off+i+vs.length):=by
 intro vs
 induction vs with
 |nil=>intro i cs _;simp
 |cons v vs ih=>
  intro i cs h;rw[List.zipIdx_cons,List.foldl_cons,ih (i+1) _ (by simp at h ⊢;omega)];have hl:off+i<cs.toList.length:=by simp at h ⊢;omega
  simp only[Array.toList_setIfInBounds];have e1:(cs.toList.set (off+i) v).take (off+(i+1))=cs.toList.take (off+i)++[v]:=by
   rw[show off+(i+1)=off+i+1 by omega,List.take_succ_eq_append_getElem (by simpa using hl),List.take_set,List.set_eq_of_length_le (by simp;omega)]
   simp
  have e2:(cs.toList.set (off+i) v).drop (off+(i+1)+vs.length)=cs.toList.drop (off+i+(vs.length+1)):=by
   rw[List.drop_set_of_lt (by omega)]
   congr 1
   omega
  rw[e1,e2]
  simp
theorem fill_flat {α:Type}(G:Flat α):∀(vs:List α) (k:Nat) (cells:Array Value),cells.size=k*G.sz+vs.length*G.sz->
 Instr.fill (λi=>some (i*G.sz,G.sz)) cells ((List.range' k vs.length).zip (vs.map λx=>.agg (G.e x).toArray))=some (cells.toList.take (k*G.sz)++vs.flatMap G.e).toArray:=by
 intro vs
 induction vs with
 |nil=>
  intro k cells h;have e:cells.toList.take (k*G.sz)=cells.toList:=List.take_of_length_le (by simp at h;simp;omega)
  simp[Instr.fill,e]
 |cons v vs ih=>
  intro k cells h;have hk:(k+1)*G.sz=k*G.sz+G.sz:=by rw[Nat.add_mul,Nat.one_mul]
  have hv:(vs.length+1)*G.sz=vs.length*G.sz+G.sz:=by rw[Nat.add_mul,Nat.one_mul]
  rw[List.length_cons,hv] at h;rw[List.length_cons,List.map_cons,List.range'_succ,List.zip_cons_cons];unfold Instr.fill;have hc:(Value.agg (G.e v).toArray).cells=(G.e v).toArray:=rfl;have hs:(G.e v).toArray.size=G.sz:=by simp[G.len]
  simp only[hc];have hn:¬(decide ((G.e v).toArray.size≠G.sz)||decide (k*G.sz+(G.e v).toArray.size>cells.size))=true:=by
   rw[Bool.or_eq_true,decide_eq_true_eq,decide_eq_true_eq];rintro (h1|h1)
   ·exact h1 hs
   ·omega
  rw[if_neg hn];have e:=foldl_sets (k*G.sz) (G.e v) 0 cells (by rw[G.len];omega);have e0:(G.e v).toArray.zipIdx.foldl (λ(cs:Array Value) (x:Value×Nat)=>cs.setIfInBounds (k*G.sz+x.2) x.1) cells=((G.e v).zipIdx 0).foldl (λ(cs:Array Value) (x:Value×Nat)=>cs.setIfInBounds (k*G.sz+x.2) x.1) cells:=by
   rw[<-Array.foldl_toList]
   simp
  rw[e0]
  generalize ((G.e v).zipIdx 0).foldl (λ(cs:Array Value) (x:Value×Nat)=>cs.setIfInBounds (k*G.sz+x.2) x.1) cells=cs' at e ⊢
  have hsz:cs'.size=cells.size:=by
   rw[<-Array.length_toList,e]
   simp[G.len]
   omega
  rw[ih (k+1) cs' (by rw[hsz,h,hk];omega),e,hk];have e3:(cells.toList.take (k*G.sz+0)++G.e v++cells.toList.drop (k*G.sz+0+(G.e v).length)).take (k*G.sz+G.sz)=cells.toList.take (k*G.sz)++G.e v:=by
   rw[List.take_append_of_le_length (by simp[G.len];omega),List.take_of_length_le (by simp[G.len];omega),Nat.add_zero]
  rw[e3,List.append_assoc,List.flatMap_cons]
section
variable
 {d:Nat}{t e tr:TypeId}{pos:String}{after:Array Edge}{α:Type}{G:Flat α}
theorem O.litG {len:Nat}{parts:List (Nat×Operand)}{ie:TypeInfo}{z:Value}(vs:List α)(hu:P.underlying t=some (.slice e))(hie:P.info? e=some ie)(hsz:ie.size=G.sz)(hz:ie.zero=some z)(hl:vs.length=len)(hsmall:¬len*G.sz>2^24)(hpos:¬len*G.sz=0)
 (hvs:parts.map (λx=>(x.1,ev n f x.2))=(List.range' 0 vs.length).zip (vs.map λx=>.agg (G.e x).toArray))
 (h:∀b w',w.heap.size<=b->Own0 w' b e (vs.flatMap G.e)->Le w w'->O P n ops rest N Z (upd f d (.slice (some ⟨b,0,none⟩) len len)) w'):
 O P n ops (ZO d (.buildSlice t len parts.toArray) tr pos after::rest) N Z f w:=by
 refine O.lit (cells:=(vs.flatMap G.e).toArray) hu hie hz (by rw[hsz];exact hsmall) (by rw[hsz];exact hpos) hvs ?_ (by simpa using h);rw[hsz,fill_flat G vs 0 _ (by simp[hl])]
 simp
end
theorem Sl.litG {α:Type}{G:Flat α}{w:World}{b n:Nat}{ty:TypeId}{vs:List α}(h:Own w b ty (vs.flatMap G.e))(hn:vs.length=n)(hm:n<=maxLen):Sl G.enc w (λk=>k=b) (.slice (some ⟨b,0,none⟩) n n) vs:=by
 subst hn;exact Sl.of_own h (by rw[<-G.length,List.take_length]) (Nat.le_refl _) hm (by rw[G.length];exact Nat.le_refl _)
end Go.Pn
end
section
namespace Go.Pn
open Go.RowKit
section
variable {α:Type}{G:Flat α}{ty:TypeId}{B:Nat}{w:World}{g cap:Nat}{xs:List α}
theorem Flat.take (G:Flat α)(xs:List α)(i:Nat):(xs.flatMap G.e).take (i*G.sz)=(xs.take i).flatMap G.e:=by
 induction xs generalizing i with
 |nil=>simp
 |cons x xs ih=>
  cases i with
  |zero=>simp
  |succ i=>
   rw[List.flatMap_cons,List.take_succ_cons,List.flatMap_cons,<-ih i,Nat.add_mul,Nat.one_mul,Nat.add_comm];rw[show G.sz+i*G.sz=(G.e x).length+i*G.sz by rw[G.len],List.take_length_add_append]
end
section
variable {α:Type}{G:Flat α}{ty:TypeId}{B:Nat}{w:World}{g cap:Nat}{xs:List α}
theorem OwnF.first (h:OwnF G ty B w (.slice (some ⟨g,0,none⟩) xs.length cap) xs){k:Nat}(hk:k<=xs.length):OwnF G ty B w (.slice (some ⟨g,0,none⟩) k cap) (xs.take k):=by
 obtain ⟨h0,hm⟩:=h;rcases h0.2 with ⟨h1,_⟩|⟨g',cap',cur,h1,hb,hg,hn,hc,hsz,ht⟩
 ·cases h1
 ·have e1:g=g':=by cases h1;rfl
  have e2:cap=cap':=by cases h1;rfl
  subst e1;subst e2;have hl:(xs.take k).length=k:=by simp;omega
  refine ⟨⟨by rw[G.length],.inr ⟨g,cap,cur,by rw[hl],hb,hg,by omega,hc,hsz,?_⟩⟩,by omega⟩;rw[hl,<-G.take,<-ht,List.take_take,Nat.min_eq_left (Nat.mul_le_mul_right _ hk)]
end
section
variable
 {d:Nat}{x y:Operand}{t e ty tr:TypeId}{pos:String}{after:Array Edge}{α:Type}{G:Flat α}{B g cap:Nat}{xs:List α}
theorem O.subLo {s m k:Nat}{kk:IntKind}{hi:Operand}(ht:P.underlying t=some (.slice e))(hsz:∀w,(sizeOf e).run P w=.ok s w)(hx:ev n f x=.slice (some ⟨g,0,none⟩) m cap)(hhi:ev n f hi=.int kk (k:Int))(h1:k<=cap)(h2:cap≠0)
 (h:O P n ops rest N Z (upd f d (.slice (some ⟨g,0,none⟩) k cap)) w):
 O P n ops (ZO d (.slice t x .none (some hi) .none) tr pos after::rest) N Z f w:=by
 refine O.val rfl rfl ?_ h;have h3:execOp (ev n f) (ZO d (.slice t x .none (some hi) .none) tr pos after)=(do pure (.value (<-Instr.sliceAt t (ev n f x) .none (some (ev n f hi)) .none))):=rfl;have hbl:(Instr.sliceBound (.int kk (k:Int)) cap .sliceAcap).run P w=.ok k w:=by
  have:(k:Int)<=cap:=by omega
  simp[Instr.sliceBound,asIntOf,this]
 have h4:(Instr.sliceAt t (.slice (some ⟨g,0,none⟩) m cap) .none (some (.int kk (k:Int))) .none).run P w=.ok (.slice (some ⟨g,0,none⟩) k cap) w:=by
  unfold Instr.sliceAt;rw[Sem.run_bind,run_underlying ht,Result.andThen_ok];simp only[];unfold Instr.slice;rw[Sem.run_bind,run_underlying ht,Result.andThen_ok]
  simp[Instr.sliceBounds,hsz,hbl,h2,Addr.add_none]
 rw[h3,Sem.run_bind,hx,hhi,h4]
 rfl
end
section
variable
 {d:Nat}{x y:Operand}{t t' tr:TypeId}{pos:String}{after:Array Edge}
theorem O.minI {a b:Int}(hx:ev n f x=i64 a)(hy:ev n f y=i64 b)(h:O P n ops rest N Z (upd f d (i64 (min a b))) w):
 O P n ops (ZO d (.call {callee:=.builtin .min,args:=[x,y].toArray,argTypes:=[t,t'].toArray}) tr pos after::rest) N Z f w:=by
 refine O.val rfl rfl ?_ h;have e:(if b<a then b else a)=min a b:=by rw[Int.min_def];split<;>split<;>omega
 have h3:(execOp (ev n f) (ZO d (.call {callee:=.builtin .min,args:=[x,y].toArray,argTypes:=[t,t'].toArray}) tr pos after)).run P w=((Builtin.min_ #[t,t'] tr #[ev n f x,ev n f y]).run P w).andThen (λv w=>.ok (.value v) w):=by
  simp[execOp,resolve,invoke,builtin]
 rw[h3,hx,hy];have h4:(Builtin.min_ #[t,t'] tr #[i64 a,i64 b]).run P w=.ok (i64 (min a b)) w:=by
  simp[Builtin.min_,Builtin.min2,i64,e]
 rw[h4]
 rfl
end
theorem Outs.three {P:Program}{fn:Func}{n:Nat}{Post:Value->World->Prop}{f:Val}{w:World}{t u s:Nat}{v v' v'':Value}(hr:fn.results=#[.tmp t,.tmp u,.tmp s])(hv:ev n f (.tmp t)=v)(hv':ev n f (.tmp u)=v')(hv'':ev n f (.tmp s)=v'')(h:Post (.tuple #[v,v',v'']) w):Outs P fn n Post f w:=
 ⟨_,by
  have e1:(Fr n f).tmps.getD t undef=v:=(getD_Fr n f t).trans hv;have e2:(Fr n f).tmps.getD u undef=v':=(getD_Fr n f u).trans hv';have e3:(Fr n f).tmps.getD s undef=v'':=(getD_Fr n f s).trans hv''
  simp[results,hr,-Array.getD_eq_getD_getElem?,e1,e2,e3],h⟩
end Go.Pn
end
section
namespace Go.Pn
open Go.RowKit
section
variable
 {d:Nat}{x:Operand}{t tr:TypeId}{pos:String}{after:Array Edge}
theorem O.makeF {g:Fn}{first cap:List Operand}{v1 v2:List Value}(h1:first.map (ev n f)=v1)(h2:cap.map (ev n f)=v2)(h:O P n ops rest N Z (upd f d (.func g v1.toArray v2.toArray)) w):
 O P n ops (ZO d (.makeFunc g first.toArray cap.toArray) tr pos after::rest) N Z f w:=by
 refine O.val rfl rfl ?_ h;have h3:execOp (ev n f) (ZO d (.makeFunc g first.toArray cap.toArray) tr pos after)=(do pure (.value (<-Instr.makeFunc g (first.toArray.map (ev n f)) (cap.toArray.map (ev n f))))):=rfl;rw[h3,<-h1,<-h2]
 simp[Instr.makeFunc]
theorem O.callV {g:Nat}{cs:List Value}{xs:List Operand}{vs:List Value}{ats:Array TypeId}{Post:Value->World->Prop}
 (hk:∀args w,(callFunc g args).run P w=.ok (.enter g args) w)(hx:ev n f x=.func (.func g) #[] cs.toArray)(hxs:xs.map (ev n f)=vs)
 (hc:Ret P g (vs++cs).toArray w Post)(h:∀v w',Post v w'->O P n ops rest N Z (upd f d v) w'):
 O P n ops (ZO d (.call {callee:=.value x,args:=xs.toArray,argTypes:=ats}) tr pos after::rest) N Z f w:=by
 subst hxs;unfold O at h ⊢;refine wpList_plain rfl λK hK=>?_
 have hrun:(execOp (ev n f) (ZO d (.call {callee:=.value x,args:=xs.toArray,argTypes:=ats}) tr pos after)).run P w=.ok (.enter g ((xs.map (ev n f))++cs).toArray) w:=by
  simp[execOp,resolve,Deferred.ofValue,invoke,hx,hk]
 simp only[Oper.wp,eval_Fr,hrun,Oper.upon_enter];refine Calls.mono hc ?_;intro e w' he;cases e with
 |returned v=>show K ((Fr n f).put (some d) v) w';rw[put_Fr];exact hK _ _ (h v w' he)
 |panicked ch=>exact he.elim
 |outgrown=>exact he.elim
end
theorem OwnF.one {α:Type}{G:Flat α}{ty:TypeId}{B:Nat}{w:World}{v:Value}{xs:List α}(h:OwnF G ty B w v xs):v.oneCell'=true:=by
 rcases h.1.2 with ⟨rfl,_⟩|⟨g,cap,cur,rfl,_⟩<;>rfl
end Go.Pn
end
section
namespace Go.Pn
section
variable {P:Program}{n:Nat}{c:Code}{N:Val->World->Prop}{X:Nat->Val->World->Prop}{R:Val->World->Prop}{Z:List PanicEntry->World->Prop}{f:Val}{w wB:World}
 {l:List Oper}{pos:String}{after:Array Edge}
theorem C.join (Q:Val->World->Val->World->Prop)(h1:C P n c (Q f w) X R Z f w)(h2:∀f' w',Q f w f' w'->N f' w'):C P n c N X R Z f w:=h1.mono h2
def DStep (P:Program)(n:Nat)(l:List Oper)(listed:Array Bool)(N:Val->World->Prop)(Z:List PanicEntry->World->Prop)(wB:World)(fuel:Nat)(f:Val)(w:World)(j:Nat):Prop:=
 wpOp P l.toArray (Q0 n N Z) j (λa' w'=>Le wB w'∧wpAnyH P .any l.toArray (Q0 n N Z) (λw'=>Le wB w') fuel (listed.setIfInBounds j true) a' w') (Fr n f) w
def allP (p:Nat->Prop):List Nat->Prop
 |[]=>True
 |i::r=>p i∧allP p r
theorem allP_mem {p:Nat->Prop}:∀{l:List Nat},allP p l->∀i∈l,p i
 |[],_,i,h=>by cases h
 |j::r,h,i,hi=>by
  rcases List.mem_cons.1 hi with rfl|hi
  ·exact h.1
  ·exact allP_mem h.2 i hi
theorem D.many {listed:Array Bool}{fuel:Nat}(is:List Nat)(hr:Region.ready .any l.toArray listed=is)(hne:is≠[])(h:allP (DStep P n l listed N Z wB fuel f w) is):D P n l listed N Z wB (fuel+1) f w:=by
 subst hr;exact wpAnyH_all rfl hne (allP_mem h)
theorem D.stepU {listed:Array Bool}{fuel j:Nat}{o:Oper}(hi:l[j]? =some o)(hg:o.guard=.none)
 (hO:O P n [o] [o] (λf' w'=>Le wB w'∧D P n l (listed.setIfInBounds j true) N Z wB fuel f' w') Z f w):DStep P n l listed N Z wB fuel f w j:=D.step hi hg hO
end
end Go.Pn
end
section
namespace Go.Pn
open Go.RowKit
section
variable {α:Type}{G:Flat α}{ty:TypeId}{B:Nat}{w:World}{g cap:Nat}{xs:List α}
end
section
variable
 {d:Nat}{x y:Operand}{t tr ty:TypeId}{pos:String}{after:Array Edge}{α:Type}
theorem At.cellAt {E:Enc α}{w:World}{F:Nat->Prop}{a:Addr}{z:α}(ha:At E w F a z):∃cs,E.rep w F cs z∧∀i v,cs[i]? =some v->w.cell? (a.add i)=some v:=by
 obtain ⟨b,off,cur,ty,fr,rfl,hF,hb,hs,hr⟩:=ha;refine ⟨_,hr,λi v hv=>?_⟩;rw[Addr.add_none];rw[List.getElem?_take] at hv
 split at hv
 ·rw [List.getElem?_drop] at hv
  simp only[World.cell?,hb,Option.isSome_none,Bool.false_eq_true,if_false]
  simpa using hv
 ·cases hv
theorem O.fieldAt {fields:Array Field}{fd:Field}{k s:Nat}{a:Addr}(ht:P.underlying t=some (.struct fields))(hf:fields[k]? =some fd)(hs:∀w,(sizeOf fd.type).run P w=.ok s w)(h0:s≠0)(hx:ev n f x=.pointer (some a))
 (h:O P n ops rest N Z (upd f d (.pointer (some (a.add fd.offset)))) w):O P n ops (ZO d (.fieldAddr t x k) tr pos after::rest) N Z f w:=by
 refine O.val rfl rfl ?_ h;have h3:execOp (ev n f) (ZO d (.fieldAddr t x k) tr pos after)=(do pure (.value (<-Instr.fieldAt t (ev n f x) k))):=rfl;rw[h3,Sem.run_bind,hx];have h4:(Instr.fieldAt t (.pointer (some a)) k).run P w=.ok (.pointer (some (a.add fd.offset))) w:=by
  unfold Instr.fieldAt;rw[Sem.run_bind,run_underlying ht,Result.andThen_ok]
  simp[hf,Instr.sureAddr,fieldPlace,hs,h0]
 rw[h4]
 rfl
theorem O.ft {fields:Array Field}{fd:Field}{k s:Nat}{a:Addr}(ht:P.underlying t=some (.struct fields))(hf:fields[k]? =some fd)(hs:∀w,(sizeOf fd.type).run P w=.ok s w)(hx:ev n f x=.pointer (some a))
 (h:O P n ops rest N Z (upd f d (.pointer (some (a.add fd.offset)))) w)(h0:s≠0:=by decide):O P n ops (ZO d (.fieldAddr t x k) tr pos after::rest) N Z f w:=O.fieldAt ht hf hs h0 hx h
theorem O.loadAtC {E:Enc α}{F:Nat->Prop}{a:Addr}{z:α}{off:Nat}(hag:∀w,(isAgg t).run P w=.ok false w)(hoff:off<E.sz)(hx:ev n f x=.pointer (some (a.add off)))(ha:At E w F a z)
 (h:∀cs u,E.rep w F cs z->cs[off]? =some u->O P n ops rest N Z (upd f d u) w):
 O P n ops (ZO d (.load t x) tr pos after::rest) N Z f w:=by
 obtain ⟨cs,hr,hc⟩:=ha.cellAt;have hl:off<cs.length:=by rw[E.len hr];exact hoff
 have hu:=hc off cs[off] (by simp[hl]);refine O.val rfl rfl ?_ (h cs cs[off] hr (by simp[hl]));have h3:execOp (ev n f) (ZO d (.load t x) tr pos after)=(do pure (.value (<-Instr.loadAt t (ev n f x)))):=rfl;rw[h3,Sem.run_bind,hx];have h4:(Instr.loadAt t (.pointer (some (a.add off)))).run P w=.ok cs[off] w:=by
  simp[Instr.loadAt,Instr.sureAddr,loadVar,hag,hu]
 rw[h4]
 rfl
theorem O.loadAtF {G:Flat α}{F:Nat->Prop}{a:Addr}{z:α}{off:Nat}{u:Value}(hag:∀w,(isAgg t).run P w=.ok false w)(hu:(G.e z)[off]? =some u)(hx:ev n f x=.pointer (some (a.add off)))(ha:At G.enc w F a z)
 (h:O P n ops rest N Z (upd f d u) w):O P n ops (ZO d (.load t x) tr pos after::rest) N Z f w:=by
 have hoff:off<G.enc.sz:=by
  have:=(List.getElem?_eq_some_iff.1 hu).1;rw[G.len] at this;exact this
 refine O.loadAtC hag hoff hx ha λcs u' hr hu'=>?_
 have e:cs=G.e z:=hr;subst e;rw[hu] at hu';cases hu';exact h
theorem O.loadC {G:Flat α}{B g cap i off k:Nat}{xs:List α}{u:Value}(hk:k=i*G.sz+off)(hag:∀w,(isAgg t).run P w=.ok false w)(hx:ev n f x=.pointer (some ⟨g,k,none⟩))
 (ho:OwnF G ty B w (.slice (some ⟨g,0,none⟩) xs.length cap) xs)(hi:i<xs.length)(hu:(G.e xs[i])[off]? =some u)
 (h:O P n ops rest N Z (upd f d u) w):O P n ops (ZO d (.load t x) tr pos after::rest) N Z f w:=by
 subst hk;have hof:off<G.sz:=by
  have:=(List.getElem?_eq_some_iff.1 hu).1;rw[G.len] at this;exact this
 obtain ⟨h0,hm⟩:=ho;rcases h0.2 with ⟨h1,_⟩|⟨g',cap',cur,h1,hb,hg,hn,hc,hsz,ht⟩
 ·cases h1
 ·have e1:g=g':=by cases h1;rfl
  subst e1;have hseg:=G.seg xs hi;have hcell:w.cell? ⟨g,i*G.sz+off,none⟩=some u:=by
   have q:((cur.toList.take (xs.length*G.sz)).drop (i*G.sz))[off]? =some u:=by
    rw[<-hseg,List.getElem?_take,if_pos hof] at hu;rw[ht];exact hu
   rw[List.getElem?_drop,List.getElem?_take] at q
   split at q
   ·simp only[World.cell?,hg,Option.isSome_none,Bool.false_eq_true,if_false]
    simpa using q
   ·cases q
  refine O.val rfl rfl ?_ h;have h3:execOp (ev n f) (ZO d (.load t x) tr pos after)=(do pure (.value (<-Instr.loadAt t (ev n f x)))):=rfl;rw[h3,Sem.run_bind,hx];have h4:(Instr.loadAt t (.pointer (some ⟨g,i*G.sz+off,none⟩))).run P w=.ok u w:=by
   simp[Instr.loadAt,Instr.sureAddr,loadVar,hag,hcell]
  rw[h4]
  rfl
end
end Go.Pn
end
section
namespace Go.Pn
open Go.RowKit
def Pred {α:Type}(P:Program)(M:Nat->Prop)(w:World)(v:Value)(arg:α->Value)(p:α->Bool):Prop:=
 ∃(g:Nat) (cs:List Value),v=.func (.func g) #[] cs.toArray∧(∀args w,(callFunc g args).run P w=.ok (.enter g args) w)∧
  ∀x w',Ext M w w'->Ret P g (arg x::cs).toArray w' (λv w''=>v=.bool (p x)∧Le w' w'')
section
variable {α:Type}{P:Program}{M:Nat->Prop}{w w':World}{v:Value}{arg:α->Value}{p:α->Bool}
theorem Pred.kM {M':Nat->Prop}(h:Pred P M w v arg p)(e:Ext M' w w')(hM:∀k,M' k->M k):Pred P M w' v arg p:=by
 obtain ⟨g,cs,h1,h2,h3⟩:=h;exact ⟨g,cs,h1,h2,λx w'' e'=>h3 x w'' (Ext.T (e.mono λk _ h=>hM k h) e')⟩
theorem Pred.L (h:Pred P M w v arg p)(e:Le w w'):Pred P M w' v arg p:=h.kM e λ_ h=>h.elim
end
section
variable
 {d:Nat}{x y:Operand}{t tr ty:TypeId}{pos:String}{after:Array Edge}
theorem O.callP {α:Type}{M:Nat->Prop}{v:Value}{arg:α->Value}{p:α->Bool}{ats:Array TypeId}(z:α)(hp:Pred P M w v arg p)(hx:ev n f x=v)(hy:ev n f y=arg z)(h:∀w',Le w w'->O P n ops rest N Z (upd f d (.bool (p z))) w'):
 O P n ops (ZO d (.call {callee:=.value x,args:=[y].toArray,argTypes:=ats}) tr pos after::rest) N Z f w:=by
 obtain ⟨g,cs,rfl,hk,hr⟩:=hp;exact O.callV (vs:=[arg z]) hk hx (by simp[hy]) (hr z w (Ext.L _ _)) λv w' h'=>by obtain ⟨rfl,e⟩:=h';exact h w' e
theorem run_eql_nilP {e:TypeId}{a:Addr}(ht:P.underlying t=some (.pointer e)):(Op.equal t (.pointer (some a)) (.pointer none)).run P w=.ok false w:=by
 unfold Op.equal Op.maxDepth;rw[Op.equalIn,Sem.run_bind,run_underlying ht]
 rfl
theorem O.neqP0 {e:TypeId}{a:Addr}(ht:P.underlying t=some (.pointer e))(hx:ev n f x=.pointer (some a)){t':TypeId}(h:O P n ops rest N Z (upd f d (.bool true)) w):
 O P n ops (ZO d (.binOp .neq t x (.const (.pointer none)) t') tr pos after::rest) N Z f w:=
 O.val rfl rfl (by
  refine run_bin hx (y:=.const (.pointer none)) rfl rfl ?_ _ _;have h2:binOp .neq t (.pointer (some a)) (.pointer none)=(do pure (.bool (!(<-Op.equal t (.pointer (some a)) (.pointer none))))):=rfl;show Sem.run P (binOp .neq t (.pointer (some a)) (.pointer none)) w=_;rw[h2,Sem.run_bind,run_eql_nilP ht]
  rfl) h
theorem O.eqlP0 {e:TypeId}{a:Addr}(ht:P.underlying t=some (.pointer e))(hx:ev n f x=.pointer (some a)){t':TypeId}(h:O P n ops rest N Z (upd f d (.bool false)) w):
 O P n ops (ZO d (.binOp .eql t x (.const (.pointer none)) t') tr pos after::rest) N Z f w:=
 O.val rfl rfl (by
  refine run_bin hx (y:=.const (.pointer none)) rfl rfl ?_ _ _;have h2:binOp .eql t (.pointer (some a)) (.pointer none)=(do pure (.bool (<-Op.equal t (.pointer (some a)) (.pointer none)))):=rfl;show Sem.run P (binOp .eql t (.pointer (some a)) (.pointer none)) w=_;rw[h2,Sem.run_bind,run_eql_nilP ht]
  rfl) h
end
def Wr (ty te:TypeId)(w:World)(bw g:Nat)(xs:List UInt8):Prop:=
 ∃v,Own w bw ty [v]∧OwnF byteF te 0 w v xs∧(∀k,bk v k->k=g)∧(∀k,bk v k->k≠bw)∧g<w.heap.size
section
variable {ty te:TypeId}{w w':World}{bw g:Nat}{xs:List UInt8}
theorem Wr.kM {M:Nat->Prop}(h:Wr ty te w bw g xs)(e:Ext M w w')(hM:∀k,(k=bw∨k=g)->¬M k):Wr ty te w' bw g xs:=by
 obtain ⟨v,h1,h2,h3,h4,h5⟩:=h;exact ⟨v,h1.kM e (hM bw (.inl rfl)),h2.kM e λk hk=>hM k (.inr (h3 k hk)),h3,h4,e.lt h5⟩
theorem Wr.keepA {M:Nat->Prop}(h:Wr ty te w bw g xs)(e:Ext M w w')(hM:∀k,(k=bw∨k=g)->¬M k:=by intro k hk h;first|(have q:=hF k hk;(try dsimp only at h);omega)|(have q:=hF2 k hk;(try dsimp only at h);omega)|(have q:=hFb k hk;(try dsimp only at h);omega)|((try dsimp only at hk);(try dsimp only at h);omega)):Wr ty te w' bw g xs:=Wr.kM h e hM
theorem Wr.L (h:Wr ty te w bw g xs)(e:Le w w'):Wr ty te w' bw g xs:=h.kM e λ_ _=>not_false
theorem Wr.lt (h:Wr ty te w bw g xs):bw<w.heap.size∧g<w.heap.size:=by
 obtain ⟨v,h1,h2,h3,h4,h5⟩:=h;exact ⟨h1.lt,h5⟩
theorem Wr.new (h:Own w bw ty [.slice none 0 0]):Wr ty te w bw bw []:=⟨_,h,OwnF.nil _ _ _ _,λ_ h=>h.elim,λ_ h=>h.elim,h.lt⟩
theorem Wr.cell (h:Wr ty te w bw g xs):∃v,Own w bw ty [v]∧OwnF byteF te 0 w v xs∧(∀k,bk v k->k=g)∧(∀k,bk v k->k≠bw):=by
 obtain ⟨v,h1,h2,h3,h4,_⟩:=h;exact ⟨v,h1,h2,h3,h4⟩
theorem Wr.put {v:Value}(h1:Own w bw ty [v])(h2:OwnF byteF te 0 w v xs)(h3:∀k,bk v k->k≠bw):∃g',Wr ty te w bw g' xs∧((bk v g'∧∀k,bk v k->k=g')∨g'=bw):=by
 by_cases h:∃k,bk v k
 ·obtain ⟨k,hk⟩:=h
  have huniq:∀j,bk v j->j=k:=by
   intro j hj;cases v with
   |slice a n c=>
    cases a with
    |none=>exact hj.elim
    |some a=>simp only[bk] at hj hk;rw[hj,hk]
   |_=>exact hj.elim
  exact ⟨k,⟨v,h1,h2,huniq,h3,(h2.bk_ge k hk).2⟩,.inl ⟨hk,huniq⟩⟩
 ·exact ⟨bw,⟨v,h1,h2,λk hk=>absurd ⟨k,hk⟩ h,h3,h1.lt⟩,.inr rfl⟩
end
end Go.Pn
end
section
namespace Go.Pn
open Go.RowKit
section
variable {α:Type}{G:Flat α}{w w':World}{F:Nat->Prop}{v v' y:Value}{xs ys:List α}{B:Nat}{ty:TypeId}
theorem append_where {P:Program}{t tr:TypeId}{i:TypeInfo}{z:Value}(ht:P.underlying t=some (.slice ty))(hi:P.info? ty=some i)(hz:i.zero=some z)(hsz:i.size=G.sz)
 (hown:OwnF G ty B w v xs)(hy:Sl G.enc w F y ys)(hb:(xs.length+ys.length)*i.bytes<=140737488355328)(hl:xs.length+ys.length<=maxLen)
 (hr:(Builtin.append_ #[t,t] tr #[v,y]).run P w=.ok v' w'):∀k,bk v' k->bk v k∨w.heap.size<=k:=by
 have h63:xs.length+ys.length<=9223372036854775807:=by unfold maxLen at hl;omega
 have hsome:(∃a0,y=.slice a0 0 0∧ys=[]∧a0=none)∨∃a cap,y=.slice (some a) ys.length cap∧∀j u,(ys.flatMap G.e)[j]? =some u->w.cell? (a.add j)=some u:=by
  rcases hy.flat with ⟨a0,rfl,rfl⟩|⟨b,off,cap,hF,rfl,hc,hlt,hcell⟩
  ·cases a0 with
   |none=>exact .inl ⟨none,rfl,rfl,rfl⟩
   |some a=>exact .inr ⟨a,0,rfl,λj u hu=>by simp at hu⟩
  ·exact .inr ⟨⟨b,off,none⟩,cap,rfl,λj u hu=>by rw[Addr.add_none];exact hcell j u hu⟩
 rcases hsome with ⟨a0,rfl,rfl,rfl⟩|⟨a,cap,rfl,hcell⟩
 ·rw [run_append_owned_none (P:=P) (w:=w) B t tr ty i G.sz ht hi v xs.length _ hown.1] at hr
  cases hr;exact λk h=>.inl h
 ·rcases hown.1.2 with ⟨rfl,h0⟩|⟨g,cap',cur,rfl,hbg,hg,hnc,hcm,hcs,htake⟩
  ·have hx:xs=[]:=List.eq_nil_of_length_eq_zero h0
   subst hx
   by_cases hm:ys.length=0
   ·have hr2:(Builtin.append_ #[t,t] tr #[.slice none 0 0,.slice (some a) ys.length cap]).run P w=.ok (.slice none 0 0) w:=by
     simp[Builtin.append_,run_underlying ht,sizeOf,typeInfo,hi,Builtin.lenOf,Builtin.firstCells,loadCells,loadCellsFrom,hm]
    rw[hr2] at hr;cases hr;exact λk h=>h.elim
   ·rw [run_append_nil (P:=P) w t tr ty i z ht hi hz a ys.length cap (ys.flatMap G.e) (by rw[hsz];exact G.length ys) hcell (by omega) (by omega) (by simp only[List.length_nil,Nat.zero_add] at hb;omega)] at hr
    cases hr;intro k hk;have hk:k=w.heap.size:=hk;exact .inr (by omega)
  ·by_cases hroom:xs.length+ys.length<=cap'
   ·have hfit:xs.length*i.size+(ys.flatMap G.e).length<=cur.size:=by rw[G.length,hcs,hsz,<-Nat.add_mul];exact Nat.mul_le_mul_right _ hroom
    rw[run_append_room (P:=P) w t tr ty i ht hi g xs.length cap' cur hg a ys.length cap (ys.flatMap G.e) (by rw[hsz];exact G.length ys) hcell (G.ones ys) hroom hfit] at hr;cases hr;exact λk h=>.inl h
   ·have holds:∀j u,(xs.flatMap G.e)[j]? =some u->w.cell? ((⟨g,0,none⟩:Addr).add j)=some u:=hown.1.cells (g:=g) rfl
    rw[run_append_grow (P:=P) w t tr ty i z ht hi hz ⟨g,0,none⟩ xs.length cap' (xs.flatMap G.e) (by rw[hsz];exact G.length xs) holds a ys.length cap (ys.flatMap G.e) (by rw[hsz];exact G.length ys) hcell (by omega) (by omega) (growslice_fits (by omega) hb)] at hr;cases hr;intro k hk;have hk:k=w.heap.size:=hk;exact .inr (by omega)
end
section
variable
 {d:Nat}{x y:Operand}{t t' ty tr e:TypeId}{pos:String}{after:Array Edge}{α:Type}{G:Flat α}{F:Nat->Prop}
theorem O.appW {i:TypeInfo}{z v v2:Value}{xs ys:List α}{B:Nat}(ht:P.underlying t=some (.slice e))(hi:P.info? e=some i)(hz:i.zero=some z)(hsz:i.size=G.sz)(hzs:z.cells.size=G.sz)
 (hx:ev n f x=v)(hy:ev n f y=v2)(hown:OwnF G e B w v xs)(hv2:Sl G.enc w F v2 ys)(hb:(xs.length+ys.length)*i.bytes<=140737488355328)(hl:xs.length+ys.length<=maxLen)(hB:B<=w.heap.size)
 (h:∀v' w',OwnF G e B w' v' (xs++ys)->Ext (bk v) w w'->(∀k,bk v' k->bk v k∨w.heap.size<=k)->O P n ops rest N Z (upd f d v') w'):
 O P n ops (ZO d (.call {callee:=.builtin .append,args:=[x,y].toArray,argTypes:=[t,t].toArray}) tr pos after::rest) N Z f w:=by
 obtain ⟨v',w',hr,ho,he⟩:=run_append_flat (P:=P) (tr:=tr) ht hi hz hsz hzs hown hv2 hb hl hB;refine O.val rfl rfl ?_ (h v' w' ho he (append_where ht hi hz hsz hown hv2 hb hl hr));have h3:(execOp (ev n f) (ZO d (.call {callee:=.builtin .append,args:=[x,y].toArray,argTypes:=[t,t].toArray}) tr pos after)).run P w=((Builtin.append_ #[t,t] tr #[ev n f x,ev n f y]).run P w).andThen (λv w=>.ok (.value v) w):=by
  simp[execOp,resolve,invoke,builtin]
 rw[h3,hx,hy,hr]
 rfl
end
abbrev MarkT:=(Int×Int)×Int×BitVec 64
abbrev ItemT:=List UInt8×List MarkT
def markF:Flat MarkT:=⟨4,λm=>[.int .i64 m.1.1,.int .i64 m.1.2,.int .i64 m.2.1,.int .u64 (m.2.2.toNat:Int)],λ_=>rfl,by simp[Value.oneCell'],by decide⟩
def mv (m:MarkT):Value:=.agg #[.int .i64 m.1.1,.int .i64 m.1.2,.int .i64 m.2.1,.int .u64 (m.2.2.toNat:Int)]
def itemE:Enc ItemT where
 sz:=2
 rep:=λw F cs x=>∃v,cs=[str x.1,v]∧Sl markF.enc w F v x.2
 len:=by rintro w F cs x ⟨v,rfl,_⟩;rfl
 one:=by
  rintro w F cs x ⟨v,rfl,h⟩ c hc;obtain ⟨l,cap,rfl,_⟩:=h.val;simp only[List.mem_cons,List.not_mem_nil,or_false] at hc;rcases hc with rfl|rfl<;>rfl
 ext:=by rintro w w' F cs x ⟨v,rfl,h⟩ hw;exact ⟨v,rfl,h.ext hw⟩
 weak:=by rintro w F F' cs x ⟨v,rfl,h⟩ hF;exact ⟨v,rfl,h.weak hF⟩
def slv (x:Option Addr×Nat×Nat):Value:=.slice x.1 x.2.1 x.2.2
def itemF:Flat (List UInt8×(Option Addr×Nat×Nat)):=⟨2,λx=>[str x.1,slv x.2],λ_=>rfl,by simp[Value.oneCell',str,slv],by decide⟩
def Items (w:World)(F:Nat->Prop)(raw:List (List UInt8×(Option Addr×Nat×Nat)))(xs:List ItemT):Prop:=
 raw.length=xs.length∧∀i,∀h:i<raw.length,∀h':i<xs.length,raw[i].1=xs[i].1∧Sl markF.enc w F (slv raw[i].2) xs[i].2
theorem Items.kM {M:Nat->Prop}{w w':World}{F:Nat->Prop}{raw:List (List UInt8×(Option Addr×Nat×Nat))}{xs:List ItemT}(h:Items w F raw xs)(e:Ext M w w')(hM:∀k,F k->¬M k):Items w' F raw xs:=
 ⟨h.1,λi h1 h2=>⟨(h.2 i h1 h2).1,(h.2 i h1 h2).2.kM e hM⟩⟩
theorem Items.keepA {M:Nat->Prop}{w w':World}{F:Nat->Prop}{raw:List (List UInt8×(Option Addr×Nat×Nat))}{xs:List ItemT}(h:Items w F raw xs)(e:Ext M w w')(hM:∀k,F k->¬M k:=by intro k hk h;first|(have q:=hF k hk;(try dsimp only at h);omega)|(have q:=hF2 k hk;(try dsimp only at h);omega)|(have q:=hFb k hk;(try dsimp only at h);omega)|((try dsimp only at hk);(try dsimp only at h);omega)):Items w' F raw xs:=Items.kM h e hM
theorem Items.weak {w:World}{F F':Nat->Prop}{raw:List (List UInt8×(Option Addr×Nat×Nat))}{xs:List ItemT}(h:Items w F raw xs)(hF:∀k,F k->F' k):Items w F' raw xs:=
 ⟨h.1,λi h1 h2=>⟨(h.2 i h1 h2).1,(h.2 i h1 h2).2.weak hF⟩⟩
theorem Items.weakA {w:World}{F F':Nat->Prop}{raw:List (List UInt8×(Option Addr×Nat×Nat))}{xs:List ItemT}(h:Items w F raw xs)(hF:∀k,F k->F' k:=by intro q hq;(try dsimp only at hq);(try dsimp only);omega):Items w F' raw xs:=Items.weak h hF
theorem Sl.slv {α:Type}{E:Enc α}{w:World}{F:Nat->Prop}{v:Value}{xs:List α}(h:Sl E w F v xs):∃a,v=Go.Pn.slv a:=by
 obtain ⟨l,cap,rfl,_⟩:=h.val;exact ⟨(l,xs.length,cap),rfl⟩
theorem Sl.oneC {α:Type}{E:Enc α}{w:World}{F:Nat->Prop}{v:Value}{xs:List α}(h:Sl E w F v xs):v.oneCell'=true:=by
 obtain ⟨l,cap,rfl,_⟩:=h.val
 rfl
section
variable
 {d:Nat}{x:Operand}{t tr:TypeId}{pos:String}{after:Array Edge}
end
section
variable
 {d:Nat}{x y:Operand}{t t' tr:TypeId}{pos:String}{after:Array Edge}
end
section
variable
 {d:Nat}{x y:Operand}{t t' tr:TypeId}{pos:String}{after:Array Edge}
end
end Go.Pn
end
section
namespace Go.Pn
section
variable
 {d:Nat}{x:Operand}{t ty:TypeId}{pos:String}{after:Array Edge}{F:Nat->Prop}
theorem O.load1F {α:Type}{G:Flat α}{a:Addr}{z:α}{u:Value}(hag:∀w,(isAgg t).run P w=.ok false w)(h1:G.sz=1)(hu:G.e z=[u])(hx:ev n f x=.pointer (some a))(ha:At G.enc w F a z)
 (h:O P n ops rest N Z (upd f d u) w):O P n ops ({dst:=some d,op:=.load t x,type:=ty,pos:=pos,after:=after,guard:=.none}::rest) N Z f w:=
 O.load1 (E:=G.enc) hag h1 hx ha λv hv=>by
  have e:[v]=G.e z:=hv;rw[hu] at e;obtain rfl:v=u:=by simpa using e
  exact h
end
end Go.Pn
namespace Go.Pn.Dt
abbrev Dot:=Int×Int
def dotF:Flat Dot:=⟨2,λd=>[.int .i64 d.1,.int .i64 d.2],λ_=>rfl,by simp[Value.oneCell'],by decide⟩
def intF:Flat Int:=⟨1,λx=>[.int .i64 x],λ_=>rfl,by simp[Value.oneCell'],by decide⟩
def Valid (d:Dot):Prop:=1<=d.1∧d.1<=65535∧1<=d.2∧d.2<=4294967295
instance (d:Dot):Decidable (Valid d):=by unfold Valid;infer_instance
def Less (a b:Dot):Prop:=a.2<b.2∨(a.2=b.2∧a.1<b.1)
instance (a b:Dot):Decidable (Less a b):=by unfold Less;infer_instance
def withD (s:List Dot)(d:Dot):List Dot:=if d∈s then s else s.takeWhile (λy=>decide (Less y d))++d::s.dropWhile (λy=>decide (Less y d))
def addAll (s l:List Dot):List Dot:=l.foldl withD s
def set (l:List Dot):List Dot:=addAll [] l
def isSet:List Dot->Bool
 |a::b::l=>decide (Less a b)&&isSet (b::l)
 |_=>true
def mg (p q r:Bool):Nat->List Dot->List Dot->List Dot
 |0,_,_=>[]
 |_+1,[],[]=>[]
 |n+1,a::x,[]=>(if p then [a] else [])++mg p q r n x []
 |n+1,[],b::y=>(if r then [b] else [])++mg p q r n [] y
 |n+1,a::x,b::y=>
  if Less a b then (if p then [a] else [])++mg p q r n x (b::y)
  else if Less b a then (if r then [b] else [])++mg p q r n (a::x) y
  else (if q then [a] else [])++mg p q r n x y
def merge (p q r:Bool)(x y:List Dot):List Dot:=mg p q r (x.length+y.length) x y
theorem merge_first {p q r:Bool}{a:Dot}{x y:List Dot}(h:y=[]∨∃b y',y=b::y'∧Less a b):merge p q r (a::x) y=(if p then [a] else [])++merge p q r x y:=by
 unfold merge;rcases h with rfl|⟨b,y',rfl,h⟩
 ·simp [mg]
 ·have e:(a::x).length+(b::y').length=(x.length+(b::y').length)+1:=by simp;omega
  rw[e,mg,if_pos h]
theorem keepA {p q r:Bool}{out x y R:List Dot}{a:Dot}(hI:out++merge p q r (a::x) y=R)(h:y=[]∨∃b y',y=b::y'∧Less a b):(if p then out++[a] else out)++merge p q r x y=R:=by
 rw[merge_first h] at hI;cases p<;>simpa using hI
end Go.Pn.Dt
end
section
namespace Go.Pn
open Go.RowKit
def Fre {α:Type}(G:Flat α)(ty:TypeId)(w:World)(F:Nat->Prop)(v:Value)(xs:List α):Prop:=OwnF G ty 0 w v xs∧∀k,bk v k->F k
abbrev Raw:=Option Addr×Nat×Nat
section
variable {α:Type}{G:Flat α}{ty:TypeId}{B:Nat}{w w':World}{F F' M:Nat->Prop}{v:Value}{xs:List α}
theorem Fre.kM (h:Fre G ty w F v xs)(e:Ext M w w')(hM:∀k,F k->¬M k):Fre G ty w' F v xs:=⟨h.1.kM e λk hk=>hM k (h.2 k hk),h.2⟩
theorem Fre.keepA (h:Fre G ty w F v xs)(e:Ext M w w')(hM:∀k,F k->¬M k:=by intro k hk h;first|(have q:=hF k hk;(try dsimp only at h);omega)|(have q:=hF2 k hk;(try dsimp only at h);omega)|(have q:=hFb k hk;(try dsimp only at h);omega)|((try dsimp only at hk);(try dsimp only at h);omega)):Fre G ty w' F v xs:=Fre.kM h e hM
theorem Fre.weak (h:Fre G ty w F v xs)(hF:∀k,F k->F' k):Fre G ty w F' v xs:=⟨h.1,λk hk=>hF k (h.2 k hk)⟩
theorem Fre.weakA (h:Fre G ty w F v xs)(hF:∀k,F k->F' k:=by intro q hq;(try dsimp only at hq);(try dsimp only);omega):Fre G ty w F' v xs:=Fre.weak h hF
end
def ItemsF (tm:TypeId)(w:World)(F:Nat->Prop)(raw:List (List UInt8×Raw))(xs:List ItemT):Prop:=
 raw.length=xs.length∧∀i,∀h:i<raw.length,∀h':i<xs.length,raw[i].1=xs[i].1∧Fre markF tm w F (slv raw[i].2) xs[i].2
section
variable {tm ti:TypeId}{w w':World}{F F' M:Nat->Prop}{raw:List (List UInt8×Raw)}{xs:List ItemT}{v:Value}
theorem ItemsF.kM (h:ItemsF tm w F raw xs)(e:Ext M w w')(hM:∀k,F k->¬M k):ItemsF tm w' F raw xs:=⟨h.1,λi h1 h2=>⟨(h.2 i h1 h2).1,(h.2 i h1 h2).2.kM e hM⟩⟩
theorem ItemsF.keepA (h:ItemsF tm w F raw xs)(e:Ext M w w')(hM:∀k,F k->¬M k:=by intro k hk h;first|(have q:=hF k hk;(try dsimp only at h);omega)|(have q:=hF2 k hk;(try dsimp only at h);omega)|(have q:=hFb k hk;(try dsimp only at h);omega)|((try dsimp only at hk);(try dsimp only at h);omega)):ItemsF tm w' F raw xs:=ItemsF.kM h e hM
theorem ItemsF.weak (h:ItemsF tm w F raw xs)(hF:∀k,F k->F' k):ItemsF tm w F' raw xs:=⟨h.1,λi h1 h2=>⟨(h.2 i h1 h2).1,(h.2 i h1 h2).2.weak hF⟩⟩
theorem ItemsF.weakA (h:ItemsF tm w F raw xs)(hF:∀k,F k->F' k:=by intro q hq;(try dsimp only at hq);(try dsimp only);omega):ItemsF tm w F' raw xs:=ItemsF.weak h hF
def SlI (ti tm:TypeId)(w:World)(F:Nat->Prop)(v:Value)(xs:List ItemT):Prop:=∃raw,Fre itemF ti w F v raw∧ItemsF tm w F raw xs
theorem SlI.kM (h:SlI ti tm w F v xs)(e:Ext M w w')(hM:∀k,F k->¬M k):SlI ti tm w' F v xs:=by obtain ⟨raw,h1,h2⟩:=h;exact ⟨raw,h1.kM e hM,h2.kM e hM⟩
theorem SlI.keepA (h:SlI ti tm w F v xs)(e:Ext M w w')(hM:∀k,F k->¬M k:=by intro k hk h;first|(have q:=hF k hk;(try dsimp only at h);omega)|(have q:=hF2 k hk;(try dsimp only at h);omega)|(have q:=hFb k hk;(try dsimp only at h);omega)|((try dsimp only at hk);(try dsimp only at h);omega)):SlI ti tm w' F v xs:=SlI.kM h e hM
theorem SlI.weak (h:SlI ti tm w F v xs)(hF:∀k,F k->F' k):SlI ti tm w F' v xs:=by obtain ⟨raw,h1,h2⟩:=h;exact ⟨raw,h1.weak hF,h2.weak hF⟩
theorem SlI.weakA (h:SlI ti tm w F v xs)(hF:∀k,F k->F' k:=by intro q hq;(try dsimp only at hq);(try dsimp only);omega):SlI ti tm w F' v xs:=SlI.weak h hF
end
structure Stn (td ti tm:TypeId) (w:World) (F:Nat->Prop) (a1 a2 a3:Raw) (ps:List Raw) (K:Nat):Prop where
 d1:∃xs,Fre Dt.dotF td w F (slv a1) xs
 d2:∃xs,Fre Dt.dotF td w F (slv a2) xs
 d3:∃raw,Fre itemF ti w F (slv a3) raw∧raw.map (·.2)=ps∧∀r∈raw,r.1.length<=K
 m:∀p∈ps,∃ms,Fre markF tm w F (slv p) ms
section
variable {td ti tm:TypeId}{w w':World}{F M:Nat->Prop}{a1 a2 a3:Raw}{ps:List Raw}{K:Nat}
theorem Stn.kM (h:Stn td ti tm w F a1 a2 a3 ps K)(e:Ext M w w')(hM:∀k,F k->¬M k):Stn td ti tm w' F a1 a2 a3 ps K:=by
 obtain ⟨⟨x1,h1⟩,⟨x2,h2⟩,⟨x3,h3,h4,h5⟩,h6⟩:=h;refine ⟨⟨x1,h1.kM e hM⟩,⟨x2,h2.kM e hM⟩,⟨x3,h3.kM e hM,h4,h5⟩,λp hp=>?_⟩;obtain ⟨ms,h7⟩:=h6 p hp;exact ⟨ms,h7.kM e hM⟩
theorem Stn.keepA (h:Stn td ti tm w F a1 a2 a3 ps K)(e:Ext M w w')(hM:∀k,F k->¬M k:=by intro k hk h;first|(have q:=hF k hk;(try dsimp only at h);omega)|(have q:=hF2 k hk;(try dsimp only at h);omega)|(have q:=hFb k hk;(try dsimp only at h);omega)|((try dsimp only at hk);(try dsimp only at h);omega)):Stn td ti tm w' F a1 a2 a3 ps K:=Stn.kM h e hM
end
section
variable
 {x y:Operand}{t tr ty:TypeId}{pos:String}{after:Array Edge}{α:Type}
end
end Go.Pn
end
section
namespace Go.Pn
open Go.RowKit
def keyI:Value->Int|.int _ a=>a|_=>0
def pairOf (e:MapEntry):Int×Int:=(keyI e.key,keyI e.val)
def IntE (e:MapEntry):Prop:=e.key=.int .i64 (keyI e.key)∧e.val=.int .i64 (keyI e.val)
structure Ents (ens:List MapEntry) (clock:Nat) (es:List (Int×Int)):Prop where
 ints:∀e∈ens,IntE e
 pairs:ens.map pairOf=es
 old:∀e∈ens,e.born<clock
 born:(ens.map (·.born)).Nodup
 keys:(es.map (·.1)).Nodup
def MapO (w:World)(b:Nat)(es:List (Int×Int)):Prop:=∃(ens:Array MapEntry) (clock:Nat),w.heap[b]? =some (.map ens clock)∧Ents ens.toList clock es
def IterO (w:World)(r b:Nat)(es done:List (Int×Int)):Prop:=r≠b∧∃(ens:Array MapEntry) (clock:Nat) (seen:Array Nat) (ds:List MapEntry),
 w.heap[b]? =some (.map ens clock)∧Ents ens.toList clock es∧w.heap[r]? =some (.mapIter (some b) clock seen clock)∧seen.toList=ds.map (·.born)∧(∀e∈ds,e∈ens.toList)∧(ds.map (·.born)).Nodup∧done=ds.map pairOf
section
variable {w w':World}{b r:Nat}{es done:List (Int×Int)}{M:Nat->Prop}
theorem MapO.lt (h:MapO w b es):b<w.heap.size:=by obtain ⟨ens,clock,h1,_⟩:=h;exact lt_of_some h1
theorem MapO.kM (h:MapO w b es)(e:Ext M w w')(hM:¬M b):MapO w' b es:=by
 have hl:=h.lt;obtain ⟨ens,clock,h1,h2⟩:=h;exact ⟨ens,clock,(e.block b hl hM).trans h1,h2⟩
theorem MapO.kO (h:MapO w b es)(e:Ext M w w')(hM:¬M b:=by intro h;(try dsimp only at h);omega):MapO w' b es:=MapO.kM h e hM
theorem IterO.lt (h:IterO w r b es done):r<w.heap.size∧b<w.heap.size:=by
 obtain ⟨_,ens,clock,seen,ds,h1,_,h3,_⟩:=h;exact ⟨lt_of_some h3,lt_of_some h1⟩
theorem IterO.kM (h:IterO w r b es done)(e:Ext M w w')(hM:∀k,(k=r∨k=b)->¬M k):IterO w' r b es done:=by
 have hl:=h.lt;obtain ⟨hn,ens,clock,seen,ds,h1,h2,h3,h4⟩:=h;exact ⟨hn,ens,clock,seen,ds,(e.block b hl.2 (hM b (.inr rfl))).trans h1,h2,(e.block r hl.1 (hM r (.inl rfl))).trans h3,h4⟩
theorem IterO.keepA (h:IterO w r b es done)(e:Ext M w w')(hM:∀k,(k=r∨k=b)->¬M k:=by intro k hk h;first|(have q:=hF k hk;(try dsimp only at h);omega)|(have q:=hF2 k hk;(try dsimp only at h);omega)|(have q:=hFb k hk;(try dsimp only at h);omega)|((try dsimp only at hk);(try dsimp only at h);omega)):IterO w' r b es done:=IterO.kM h e hM
end
section
variable
 {x y z:Operand}{t tr kt et:TypeId}{d:Nat}{pos:String}{after:Array Edge}{b r:Nat}{es done:List (Int×Int)}{k v:Int}
end
section
variable
 {d:Nat}{x y:Operand}{t t' tr:TypeId}{pos:String}{after:Array Edge}
theorem O.maxI {a b:Int}(hx:ev n f x=i64 a)(hy:ev n f y=i64 b)(h:O P n ops rest N Z (upd f d (i64 (max a b))) w):
 O P n ops (ZO d (.call {callee:=.builtin .max,args:=[x,y].toArray,argTypes:=[t,t'].toArray}) tr pos after::rest) N Z f w:=by
 refine O.val rfl rfl ?_ h;have e:(if a<b then b else a)=max a b:=by rw[Int.max_def];split<;>split<;>omega
 have h3:(execOp (ev n f) (ZO d (.call {callee:=.builtin .max,args:=[x,y].toArray,argTypes:=[t,t'].toArray}) tr pos after)).run P w=((Builtin.max_ #[t,t'] tr #[ev n f x,ev n f y]).run P w).andThen (λv w=>.ok (.value v) w):=by
  simp[execOp,resolve,invoke,builtin]
 rw[h3,hx,hy];have h4:(Builtin.max_ #[t,t'] tr #[i64 a,i64 b]).run P w=.ok (i64 (max a b)) w:=by
  simp[Builtin.max_,Builtin.max2,i64,e]
 rw[h4]
 rfl
end
end Go.Pn
end
section
namespace Go.Pn
open Go.RowKit
def ItS (w:World)(b:Nat)(s:List UInt8)(k:Nat):Prop:=w.heap[b]? =some (.stringIter ⟨s.toArray⟩ k)∧k<=s.length
section
variable {w w':World}{b k:Nat}{s:List UInt8}{M:Nat->Prop}
theorem ItS.lt (h:ItS w b s k):b<w.heap.size:=(Array.getElem?_eq_some_iff.1 h.1).1
theorem ItS.kM (h:ItS w b s k)(e:Ext M w w')(hM:¬M b):ItS w' b s k:=⟨(e.block b h.lt hM).trans h.1,h.2⟩
theorem ItS.kO (h:ItS w b s k)(e:Ext M w w')(hM:¬M b:=by intro h;(try dsimp only at h);omega):ItS w' b s k:=h.kM e hM
theorem ItS.L (h:ItS w b s k)(e:Le w w'):ItS w' b s k:=h.kM e not_false
end
section
variable
 {x:Operand}{t tr ty:TypeId}{pos:String}{after:Array Edge}{d b k:Nat}{s:List UInt8}
theorem O.rangeS (hm:P.underlying t=some .string)(hx:ev n f x=str s)
 (h:∀b w',w.heap.size<=b->ItS w' b s 0->Le w w'->O P n ops rest N Z (upd f d (.pointer (some ⟨b,0,none⟩))) w'):
 O P n ops (ZO d (.range t x) tr pos after::rest) N Z f w:=by
 refine O.val rfl rfl ?_ (h w.heap.size (w.alloc (.stringIter ⟨s.toArray⟩ 0)) (Nat.le_refl _) ⟨heap_alloc_new w _,Nat.zero_le _⟩ (Le.alloc _ _));have h3:execOp (ev n f) (ZO d (.range t x) tr pos after)=(do pure (.value (<-Instr.range t (ev n f x)))):=rfl;rw[h3,Sem.run_bind,hx];have h4:=run_range_string (P:=P) w t ⟨s.toArray⟩ hm;rw[show str s=Value.string ⟨s.toArray⟩ from rfl,h4]
 rfl
theorem O.nextS (hx:ev n f x=.pointer (some ⟨b,0,none⟩))(ho:ItS w b s k)(hs:∀c∈s,c.toNat<128)
 (h0:k=s.length->O P n ops rest N Z (upd f d (.tuple #[.bool false])) w)
 (h1:∀w',(hk:k<s.length)->ItS w' b s (k+1)->Ext (λi=>i=b) w w'->w'.heap.size=w.heap.size->O P n ops rest N Z (upd f d (.tuple #[.bool true,.int .i64 (k:Int),.int .i32 (s[k].toNat:Int)])) w'):
 O P n ops (ZO d (.next x true) tr pos after::rest) N Z f w:=by
 have hlt:=ho.lt;obtain ⟨hb,hk⟩:=ho;have h3:execOp (ev n f) (ZO d (.next x true) tr pos after)=(do pure (.value (<-Instr.next (ev n f x) true tr))):=rfl;have hsz:(⟨s.toArray⟩:ByteArray).size=s.length:=by simp[ByteArray.size]
 by_cases h5:k<s.length
 ·have h6:k<(⟨s.toArray⟩:ByteArray).size:=by rw[hsz];exact h5
  have hg:((⟨s.toArray⟩:ByteArray)[k]'h6)=s[k]:=by simp[ByteArray.getElem_eq_getElem_data]
  have hd:=decode_ascii ⟨s.toArray⟩ k h6 (by rw[hg];exact hs _ (List.getElem_mem _));rw[hg] at hd;refine O.val (w':={w with heap:=w.heap.setIfInBounds b (.stringIter ⟨s.toArray⟩ (k+1))}) rfl rfl ?_ (h1 _ h5 ⟨by simp[hlt],h5⟩ ⟨rfl,rfl,rfl,by simp,λi _ hi=>by rw[Array.getElem?_setIfInBounds,if_neg (λe=>hi e.symm)]⟩ (by simp));rw[h3,Sem.run_bind,hx];have h4:(Instr.next (.pointer (some ⟨b,0,none⟩)) true tr).run P w=.ok (.tuple #[.bool true,.int .i64 (k:Int),.int .i32 (s[k].toNat:Int)]) {w with heap:=w.heap.setIfInBounds b (.stringIter ⟨s.toArray⟩ (k+1))}:=by
   simp only[Instr.next,getObj,setObj,Sem.run_bind,Sem.run,hb,Result.andThen,h6,if_true,hd]
   simp[goInt]
  rw[h4]
  rfl
 ·have h6:¬k<(⟨s.toArray⟩:ByteArray).size:=by rw[hsz];exact h5
  refine O.val rfl rfl ?_ (h0 (by omega));rw[h3,Sem.run_bind,hx];have h4:(Instr.next (.pointer (some ⟨b,0,none⟩)) true tr).run P w=.ok (.tuple #[.bool false]) w:=by
   simp[Instr.next,getObj,Sem.run,hb,h6]
  rw[h4]
  rfl
end
end Go.Pn
end
section
namespace Go.Pn
open Go.ChangeShapes Go.WideShapes Go.ChangeAt Go.RowKit
section
variable {H:Type}{enc:TypeId×Value->H}{P:Program}{W W':World}
theorem laid_mem {l:List (String×DataW Unit)}(h:laidMet P l W){n:String}{d:DataW Unit}(hm:(n,d)∈l):
 ∃g t cs fuel p,P.globalNamed n=some g∧(P.globals[g]?).map (·.type)=some t∧W.var? P n=some cs∧DataW.trod (λ_=>()) P W 0 (λ_=>true) false fuel t cs.toList=some (d,p):=by
 obtain ⟨ps,hv,h0⟩:=h
 clear h0
 induction l generalizing ps with
 |nil=>cases hm
 |cons x l ih=>
  obtain ⟨n',d'⟩:=x;obtain ⟨g,t,cs,fuel,p,q,h1,h2,h3,h4,h5,_⟩:=hv;rcases List.mem_cons.1 hm with e|hm
  ·cases e;exact ⟨g,t,cs,fuel,p,h1,h2,h3,h4⟩
  ·exact ih hm _ h5
theorem laidH {l:List (String×DataW Unit)}(h:laidMetH P l W)(hn:(l.filter λx=>x.2.handleName?.isSome)=[]):laidMet P l W:=by
 unfold laidMetH at h;rw[hn] at h;exact h
theorem cell_err {l:List (String×DataW Unit)}(h:laidMet P l W){name nm:String}{g:Nat}{t:TypeId}{ms:Array (String×TypeId)}{d:DataW Unit}(hm:(name,.iface nm d)∈l)
 (hg:P.globalNamed name=some g)(hty:(P.globals[g]?).map (·.type)=some t)(ht:P.underlying t=some (.interface ms)):∃te pe,CellIs W g (.iface te pe):=by
 obtain ⟨g',t',cs,fuel,p,h1,h2,h3,h4⟩:=laid_mem h hm;obtain rfl:=Option.some.inj (hg.symm.trans h1);obtain rfl:=Option.some.inj (hty.symm.trans h2);obtain ⟨_,u,v,h5,_⟩:=iface_of_trod ht h4;refine ⟨u,v,?_⟩;unfold CellIs;rw[World.var?_cell hg h3];have:cs.toList[0]? =some (.iface u v):=by rw[h5];rfl
 simpa using this
end
end Go.Pn
end
section
namespace Go.Pn
open Go.ChangeShapes Go.WideShapes Go.ChangeAt Go.RowKit
def slE {α:Type}(E:Enc α):Enc (List α) where
 sz:=1
 rep:=λw F cs xs=>∃v,cs=[v]∧Sl E w F v xs
 len:=by rintro w F cs x ⟨v,rfl,_⟩;rfl
 one:=by
  rintro w F cs x ⟨v,rfl,h⟩ c hc;obtain rfl:c=v:=by simpa using hc
  obtain ⟨l,cap,rfl,_⟩:=h.val
  rfl
 ext:=by rintro w w' F cs x ⟨v,rfl,h⟩ hw;exact ⟨v,rfl,h.ext hw⟩
 weak:=by rintro w F F' cs x ⟨v,rfl,h⟩ hF;exact ⟨v,rfl,h.weak hF⟩
def prE {α β:Type}(E:Enc α)(E':Enc β):Enc (α×β) where
 sz:=E.sz+E'.sz
 rep:=λw F cs x=>∃a b,cs=a++b∧E.rep w F a x.1∧E'.rep w F b x.2
 len:=by rintro w F cs x ⟨a,b,rfl,h1,h2⟩;rw[List.length_append,E.len h1,E'.len h2]
 one:=by
  rintro w F cs x ⟨a,b,rfl,h1,h2⟩ c hc;rcases List.mem_append.1 hc with h|h
  ·exact E.one h1 c h
  ·exact E'.one h2 c h
 ext:=by rintro w w' F cs x ⟨a,b,rfl,h1,h2⟩ hw;exact ⟨a,b,rfl,E.ext h1 hw,E'.ext h2 hw⟩
 weak:=by rintro w F F' cs x ⟨a,b,rfl,h1,h2⟩ hF;exact ⟨a,b,rfl,E.weak h1 hF,E'.weak h2 hF⟩
def intK (k:IntKind):Flat Int:=⟨1,λx=>[.int k x],λ_=>rfl,by simp[Value.oneCell'],by decide⟩
def strF:Flat (List UInt8):=⟨1,λx=>[str x],λ_=>rfl,by simp[Value.oneCell',str],by decide⟩
theorem cell_at {W:World}{a:Addr}{v:Value}(h:W.cell? a=some v):∃cur ty fr,a.spot=none∧W.heap[a.block]? =some (.cells cur ty fr):=by
 unfold World.cell? at h
 split at h
 ·rename_i c ty fr hh
  split at h
  ·cases h
  ·rename_i hs
   exact ⟨c,ty,fr,by simpa using hs,hh⟩
 ·cases h
structure Opens (P:Program) (W:World) {α:Type} (E:Enc α) (Q:α->Prop) (t:TypeId):Prop where
 sz:P.cellsOf t=E.sz
 op:∀{H:Type} {enc:TypeId×Value->H} {fuel:Nat} {cs:List Value} {x:DataW H×List MemPlace},DataW.trod enc P W 0 (λ_=>true) true fuel t cs=some x->∃d,E.rep W (λk=>k<W.heap.size) cs d∧Q d
section
variable {P:Program}{W:World}{α β:Type}{E:Enc α}{E':Enc β}{Q:α->Prop}{Q':β->Prop}{t e:TypeId}
theorem Opens.int {k:IntKind}(ht:P.underlying t=some (.int k))(hc:P.cellsOf t=1):Opens P W (intK k).enc (λz=>(Lit.int k z).wf=true) t:=
 ⟨hc,λh=>by obtain ⟨z,rfl,_,hw⟩:=DataW.trod_int ht h;exact ⟨z,rfl,hw⟩⟩
theorem Opens.str (ht:P.underlying t=some .string)(hc:P.cellsOf t=1):Opens P W strF.enc (λl=>l.length<=maxLen) t:=
 ⟨hc,λh=>by
  obtain ⟨s,rfl,_,hw⟩:=DataW.trod_string ht h;refine ⟨s.data.toList,?_,by rw[Array.length_toList];exact hw⟩;show [Value.string s]=[Go.Pn.str s.data.toList];unfold Go.Pn.str
  simp⟩
theorem Opens.imp (h:Opens P W E Q t)(hs:E'.sz=E.sz)(hi:∀cs d,E.rep W (λk=>k<W.heap.size) cs d->Q d->∃d',E'.rep W (λk=>k<W.heap.size) cs d'∧Q' d'):Opens P W E' Q' t:=
 ⟨h.sz.trans hs.symm,λhx=>by obtain ⟨d,h1,h2⟩:=h.op hx;exact hi _ d h1 h2⟩
theorem Opens.slice (h:Opens P W E Q e)(ht:P.underlying t=some (.slice e))(hc:P.cellsOf t=1)(hpos:0<E.sz):Opens P W (slE E) (λl=>∀x∈l,Q x) t:=by
 refine ⟨hc,λ{H enc fuel cs x} hx=>?_⟩;rcases Deep.open_slice ht hx with ⟨rfl,_⟩|⟨a,len,cap,m,n,D,Pl,rfl,_,hl,hm,hmm,_,hel⟩
 ·exact ⟨[],⟨_,rfl,Sl.nil _ _ _⟩,by simp⟩
 ·simp only[if_true] at hmm
  subst hmm;rcases Nat.eq_zero_or_pos m with rfl|hpm
  ·obtain rfl:len=0:=by omega
   exact ⟨[],⟨_,rfl,by simp,.inl ⟨_,rfl,rfl⟩⟩,by simp⟩
  ·have each:∀i,i<m->∃q:α,∃cs',W.cells? 0 (a.add (i*E.sz)) E.sz=some cs'∧E.rep W (λk=>k<W.heap.size) cs' q∧Q q:=by
    intro i hi;obtain ⟨cs',h1,h2⟩:=hel i hi;rw[h.sz] at h1;obtain ⟨d,h3,h4⟩:=h.op h2;exact ⟨d,cs',h1,h3,h4⟩
   obtain ⟨d0,_⟩:=each 0 hpm;haveI:Inhabited α:=⟨d0⟩
   obtain ⟨q,hq⟩:=Deep.choose_lt each;have hcell:∀i,i<m->∀j,j<E.sz->∃cs',E.rep W (λk=>k<W.heap.size) cs' (q i)∧cs'.length=E.sz∧W.cell? (a.add (i*E.sz+j))=cs'[j]? :=by
    intro i hi j hj;obtain ⟨cs',h1,h2,_⟩:=hq i hi;obtain ⟨_,hlen,hc⟩:=World.cells?_some h1;refine ⟨cs',h2,hlen,?_⟩;rw[<-hc j hj,Deep.add_add]
   obtain ⟨cs0,_,hl0,hc0⟩:=hcell 0 hpm 0 hpos;rw[Nat.zero_mul,List.getElem?_eq_getElem (by omega)] at hc0;obtain ⟨cur,ty,fr,hsp,hb⟩:=cell_at hc0;obtain ⟨b,off,spot⟩:=a;have hsp':spot=none:=by
    unfold Addr.add at hsp
    simpa using hsp
   subst hsp';have hb':W.heap[b]? =some (.cells cur ty fr):=by
    unfold Addr.add at hb
    simpa using hb
   have hcur:∀k v,W.cell? ⟨b,k,none⟩=some v->cur[k]? =some v:=by
    intro k v hk;unfold World.cell? at hk
    simpa[hb'] using hk
   refine ⟨(List.range len).map q,⟨_,rfl,by simp;omega,.inr ⟨b,off,m,cur,ty,fr,by simp,lt_of_some hb',hb',by simpa using hl,hm,?_,?_⟩⟩,?_⟩
   ·intro _
    obtain ⟨cs1,_,hl1,hc1⟩:=hcell (m-1) (by omega) (E.sz-1) (by omega);rw[List.getElem?_eq_getElem (by omega),Addr.add_none] at hc1;have h2:=(Array.getElem?_eq_some_iff.1 (hcur _ _ hc1)).1;have h3:(m-1)*E.sz+E.sz=m*E.sz:=by
     obtain ⟨m',rfl⟩:∃m',m=m'+1:=⟨m-1,by omega⟩
     rw[Nat.add_sub_cancel,Nat.add_mul,Nat.one_mul]
    omega
   ·intro i hi
    have hi2:i<len:=by simpa using hi
    obtain ⟨cs',h1,h2,_⟩:=hq i (by omega);obtain ⟨_,hlen,hc⟩:=World.cells?_some h1;have e1:(cur.toList.drop (off+i*E.sz)).take E.sz=cs':=by
     apply List.ext_getElem?
     intro j
     by_cases hj:j<E.sz
     ·rw [List.getElem?_take,if_pos hj,List.getElem?_drop]
      have h3:=hc j hj;rw[Deep.add_add,Addr.add_none,List.getElem?_eq_getElem (by omega)] at h3;have h4:=hcur _ _ h3;rw[List.getElem?_eq_getElem (l:=cs') (by omega),Array.getElem?_toList,Nat.add_assoc];exact h4
     ·rw [List.getElem?_eq_none (by rw[List.length_take];omega),List.getElem?_eq_none (by omega)]
    rw[e1]
    simpa using h2
   ·intro x hx
    obtain ⟨i,hi,rfl⟩:=List.mem_map.1 hx;obtain ⟨_,_,_,h3⟩:=hq i (by have:=List.mem_range.1 hi;omega);exact h3
theorem Opens.struct2 {f0 f1:Field}(ht:P.underlying t=some (.struct #[f0,f1]))(h0:Opens P W E Q f0.type)(h1:Opens P W E' Q' f1.type)(o0:f0.offset=0)(o1:f1.offset=E.sz)(hc:P.cellsOf t=E.sz+E'.sz):
 Opens P W (prE E E') (λx=>Q x.1∧Q' x.2) t:=by
 refine ⟨hc,λ{H enc fuel cs x} hx=>?_⟩;obtain ⟨xs,n,_,_,hlen,hxl,hf⟩:=DataW.trod_struct ht hx;have g0:=hf 0 f0 rfl;have g1:=hf 1 f1 rfl;have hx2:xs.length=2:=hxl;rw[List.getElem?_eq_getElem (by omega)] at g0 g1;rw[o0,List.drop_zero,h0.sz] at g0;rw[o1,h1.sz] at g1;obtain ⟨d0,a1,a2⟩:=h0.op g0;obtain ⟨d1,b1,b2⟩:=h1.op g1;refine ⟨(d0,d1),⟨_,_,?_,a1,b1⟩,a2,b2⟩;rw[List.take_of_length_le (l:=cs.drop E.sz) (by simp;omega),List.take_append_drop]
theorem tab_is {l:List (String×DataW Unit)}(h:laidMet P l W){name:String}{k:IntKind}{zs:List Int}{g n:Nat}{dd:DataW Unit}(hm:(name,dd)∈l)(hd:dd=Lib.tabData k zs)
 (hg:P.globalNamed name=some g)(hty:(P.globals[g]?).map (·.type)=some t)(ht:P.underlying t=some (.array n e))(he:P.underlying e=some (.int k))(hce:P.cellsOf e=1)(hct:P.cellsOf t=n):Lib.TabIs P W name k zs:=by
 obtain ⟨g',t',cs,fuel,p,h1,h2,h3,h4⟩:=laid_mem h hm;obtain rfl:=Option.some.inj (hg.symm.trans h1);obtain rfl:=Option.some.inj (hty.symm.trans h2);rw[hd] at h4;unfold Lib.TabIs;rw[h3,<-Lib.cells_of_tab ht he hce hct h4]
end
end Go.Pn
end
section
namespace Go.Pn
open Go.RowKit
def rowF:Flat (List UInt8×List UInt8):=⟨2,λx=>[str x.1,str x.2],λ_=>rfl,by simp[Value.oneCell',str],by decide⟩
theorem pairE {i:Nat}{a b:Value}{l m:List (Nat×Value)}(h:a=b)(h2:l=m):((i,a)::l)=(i,b)::m:=by rw[h,h2]
end Go.Pn
end
section
namespace Go.Pn
open Go.RowKit
def bare (w:World):World:={w with heap:=#[]}
theorem Ext.bare {M:Nat->Prop}{w w':World}(h:Ext M w w'):Le (Go.Pn.bare w) w':=⟨h.os,h.tape,h.output,Nat.zero_le _,λ_ hk _=>absurd hk (Nat.not_lt_zero _)⟩
theorem zeroCells_flat {α:Type}{G:Flat α}{z:Value}{zx:α}(hzx:z.cells.toList=G.e zx)(n:Nat):(Builtin.zeroCells z.cells n).toList=(List.replicate n zx).flatMap G.e:=by
 have hzsz:z.cells.size=G.sz:=by rw[<-Array.length_toList,hzx,G.len]
 apply List.ext_getElem?
 intro j
 by_cases hj:j<n*G.sz
 ·have hlt:j<((List.replicate n zx).flatMap G.e).length:=by rw[G.length];simpa using hj
  obtain ⟨hi,hu⟩:=G.get (List.replicate n zx) (List.getElem?_eq_getElem hlt);rw[List.getElem?_eq_getElem hlt,<-hu];have hjm:j%G.sz<z.cells.size:=by rw[hzsz];exact Nat.mod_lt _ G.pos
  simp only[Builtin.zeroCells,Array.toList_map,Array.toList_range,List.getElem?_map];rw[hzsz,List.getElem?_range hj];simp only[Option.map_some,List.getElem_replicate];rw[getElem!_pos z.cells _ hjm,<-hzx,Array.getElem?_toList,Array.getElem?_eq_getElem hjm]
 ·rw [List.getElem?_eq_none (by simp[Builtin.zeroCells,hzsz];omega),List.getElem?_eq_none (by rw[G.length];simp;omega)]
section
variable
 {d:Nat}{x y:Operand}{t t' tn ty tr e:TypeId}{pos:String}{after:Array Edge}{α:Type}{G:Flat α}{F:Nat->Prop}
theorem O.capL {l:Option Addr}{k c:Nat}(ht:P.underlying t=some (.slice e))(hx:ev n f x=.slice l k c)(h:O P n ops rest N Z (upd f d (i64 c)) w):
 O P n ops (ZO d (.call {callee:=.builtin .cap,args:=[x].toArray,argTypes:=[t].toArray}) ty pos after::rest) N Z f w:=
 O.val rfl rfl (by
  simp[execOp,resolve,invoke,builtin,hx,Builtin.cap_,run_underlying ht,goInt]) h
theorem O.appZ {i:TypeInfo}{z:Value}{zx:α}{k kn:IntKind}{m B:Nat}(ht:P.underlying t=some (.slice e))(htn:P.underlying tn=some (.int kn))(hi:P.info? e=some i)(hz:i.zero=some z)(hsz:i.size=G.sz)(hzx:z.cells.toList=G.e zx)
 (hx:ev n f x=.slice none 0 0)(hy:ev n f y=.int k (m:Int))(h0:0<m)(hb:m*i.bytes<=281474976710656)(hm:m<=maxLen)(hB:B<=w.heap.size)
 (h:∀b cap w',w.heap.size<=b->m<=cap->OwnF G e B w' (.slice (some ⟨b,0,none⟩) m cap) (List.replicate m zx)->Le w w'->O P n ops rest N Z (upd f d (.slice (some ⟨b,0,none⟩) m cap)) w'):
 O P n ops (ZO d (.call {callee:=.builtin .append,args:=[x,y].toArray,argTypes:=[t,tn].toArray}) tr pos after::rest) N Z f w:=by
 have hr:=Go.Lib.run_append_nil_zeros (P:=P) w t tn tr e i z k kn ht htn hi hz m h0 (by rw[hsz];exact G.pos) (by unfold maxLen at hm;omega) hb;have hge:=grownCap_ge w m 0 e;have hcm:grownCap w m 0 e<=maxLen:=grownCap_le_maxLen w m 0 e hm;have hzsz:z.cells.size=G.sz:=by rw[<-Array.length_toList,hzx,G.len]
 obtain ⟨w1,hw1⟩:∃w1,w1=w.drew.alloc (.cells (Builtin.zeroCells z.cells m++Builtin.zeroCells z.cells (grownCap w m 0 e-m)) e):=⟨_,rfl⟩
 rw[<-hw1] at hr;have hblk:w1.heap[w.heap.size]? =some (.cells (Builtin.zeroCells z.cells m++Builtin.zeroCells z.cells (grownCap w m 0 e-m)) e (0,0)):=by rw[hw1];exact heap_alloc_new w.drew _
 have hle:Le w w1:=by rw[hw1];exact (Le.drew w).trans (Le.alloc _ _)
 refine O.val rfl rfl (w':=w1) ?_ (h w.heap.size (grownCap w m 0 e) w1 (Nat.le_refl _) hge ?_ hle)
 ·have h3:(execOp (ev n f) (ZO d (.call {callee:=.builtin .append,args:=[x,y].toArray,argTypes:=[t,tn].toArray}) tr pos after)).run P w=((Builtin.append_ #[t,tn] tr #[ev n f x,ev n f y]).run P w).andThen (λv w=>.ok (.value v) w):=by
   simp[execOp,resolve,invoke,builtin]
  rw[h3,hx,hy,hr]
  rfl
 ·refine ⟨⟨by rw[G.length],.inr ⟨w.heap.size,_,_,by simp,hB,hblk,by simpa using hge,hcm,?_,?_⟩⟩,by simpa using hm⟩
  ·simp only[Array.size_append,size_zeroCells,hzsz,<-Nat.add_mul]
   congr 1
   omega
  ·rw [Array.toList_append,zeroCells_flat hzx,List.take_append_of_le_length (by rw[G.length];exact Nat.le_refl _),<-G.length,List.take_length]
theorem O.subNil {s:Nat}{kk:IntKind}{hi:Operand}(ht:P.underlying t=some (.slice e))(hsz:∀w,(sizeOf e).run P w=.ok s w)(hx:ev n f x=.slice none 0 0)(hhi:ev n f hi=.int kk 0)
 (h:O P n ops rest N Z (upd f d (.slice none 0 0)) w):
 O P n ops (ZO d (.slice t x .none (some hi) .none) tr pos after::rest) N Z f w:=by
 refine O.val rfl rfl ?_ h;have h3:execOp (ev n f) (ZO d (.slice t x .none (some hi) .none) tr pos after)=(do pure (.value (<-Instr.sliceAt t (ev n f x) .none (some (ev n f hi)) .none))):=rfl;have hbl:(Instr.sliceBound (.int kk 0) 0 .sliceAcap).run P w=.ok 0 w:=by
  simp[Instr.sliceBound,asIntOf]
 have h4:(Instr.sliceAt t (.slice none 0 0) .none (some (.int kk 0)) .none).run P w=.ok (.slice none 0 0) w:=by
  unfold Instr.sliceAt;rw[Sem.run_bind,run_underlying ht,Result.andThen_ok];simp only[];unfold Instr.slice;rw[Sem.run_bind,run_underlying ht,Result.andThen_ok]
  simp[Instr.sliceBounds,hsz,hbl]
 rw[h3,Sem.run_bind,hx,hhi,h4]
 rfl
end
theorem nil_form {n:Nat}{f:Val}{d:Nat}{x:Operand}{a:Addr}{ty:TypeId}{pos:String}{after:Array Edge}(hx:ev n f x=.pointer (some a)):
 ∃X:Sem Value,execOp (ev n f) (ZO d (.nilCheck x) ty pos after)=(do pure (.value (<-X))):=
 ⟨pure (.pointer (some a)),by simp[execOp,hx]⟩
open Go.Lib in
theorem strCells_flat (l:List UInt8):strCells ⟨l.toArray⟩=l.flatMap byteF.e:=by
 rw[byteF_map]
 simp[strCells]
open Go.Lib
section
variable
 {d:Nat}{x y:Operand}{t t' tn ty tr e:TypeId}{pos:String}{after:Array Edge}{α:Type}{F:Nat->Prop}
theorem O.appS {i:TypeInfo}{v:Value}{xs ys:List UInt8}{B:Nat}(ht:P.underlying t=some (.slice e))(hu:P.underlying t'=some .string)(hi:P.info? e=some i)(hz:i.zero=some (.int .u8 0))(hsz:i.size=1)(hby:i.bytes=1)
 (hx:ev n f x=v)(hy:ev n f y=str ys)(hown:OwnF byteF e B w v xs)(hb:xs.length+ys.length<=140737488355328)(hl:xs.length+ys.length<=maxLen)(hB:B<=w.heap.size)
 (h:∀v' w',OwnF byteF e B w' v' (xs++ys)->Ext (bk v) w w'->O P n ops rest N Z (upd f d v') w'):
 O P n ops (ZO d (.call {callee:=.builtin .append,args:=[x,y].toArray,argTypes:=[t,t'].toArray}) tr pos after::rest) N Z f w:=by
 have hsz2:ByteArray.size ⟨ys.toArray⟩=ys.length:=by simp[ByteArray.size]
 obtain ⟨v',w',hr,ho,hg,_⟩:=run_append_own_string (P:=P) (w:=w) B t t' tr e i ht hu hi hz hsz hby v xs.length _ hown.1 ⟨ys.toArray⟩ (by rw[hsz2];exact hl) (by rw[hsz2];exact hb) hB;rw[strCells_flat,hsz2] at ho;refine O.val rfl rfl ?_ (h v' w' ⟨?_,by simpa using hl⟩ ((ext_of_grown hg).mono λk _ hk=>?_))
 ·have h3:(execOp (ev n f) (ZO d (.call {callee:=.builtin .append,args:=[x,y].toArray,argTypes:=[t,t'].toArray}) tr pos after)).run P w=((Builtin.append_ #[t,t'] tr #[ev n f x,ev n f y]).run P w).andThen (λv w=>.ok (.value v) w):=by
   simp[execOp,resolve,invoke,builtin]
  have e1:str ys=.string ⟨ys.toArray⟩:=rfl;rw[h3,hx,hy,e1,hr]
  rfl
 ·rw [List.flatMap_append,List.length_append];exact ho
 ·cases v with
  |slice a n c=>
   cases a with
   |none=>simp[Value.ownBlock] at hk
   |some a=>simp only[Value.ownBlock,Option.some.injEq] at hk;exact hk.symm
  |_=>simp[Value.ownBlock] at hk
end
def sliE {α:Type}(E:Enc α):Enc (List α) where
 sz:=1
 rep:=λw F cs xs=>∃v,cs=[v]∧Sl E w F v xs
 len:=by rintro w F cs x ⟨v,rfl,_⟩;rfl
 one:=by
  rintro w F cs x ⟨v,rfl,h⟩ c hc;obtain rfl:c=v:=by simpa using hc
  exact h.oneC
 ext:=by rintro w w' F cs x ⟨v,rfl,h⟩ hw;exact ⟨v,rfl,h.ext hw⟩
 weak:=by rintro w F F' cs x ⟨v,rfl,h⟩ hF;exact ⟨v,rfl,h.weak hF⟩
theorem Sl.lits {α:Type}{E:Enc α}{w:World}{F:Nat->Prop}{b:Nat}{ty:TypeId}{vs:List Value}{xss:List (List α)}(h:Own w b ty vs)(hl:vs.length=xss.length)(hm:xss.length<=maxLen)
 (hs:∀i,∀h1:i<vs.length,∀h2:i<xss.length,Sl E w F vs[i] xss[i]):Sl (sliE E) w (λk=>k=b∨F k) (.slice (some ⟨b,0,none⟩) xss.length xss.length) xss:=by
 obtain ⟨fr,hb,_⟩:=h;refine ⟨hm,.inr ⟨b,0,xss.length,_,ty,fr,rfl,.inl rfl,hb,Nat.le_refl _,hm,?_,λi hi=>?_⟩⟩
 ·intro _
  show 0+xss.length*1<=_
  simp[hl]
 ·refine ⟨vs[i]'(by omega),?_,(hs i (by omega) hi).weak λk hk=>.inr hk⟩
  show (vs.drop (0+i*1)).take 1=_;rw[Nat.zero_add,Nat.mul_one,List.drop_eq_getElem_cons (by omega),List.take_succ_cons,List.take_zero]
theorem Sl.lits1 {α:Type}{E:Enc α}{w:World}{F:Nat->Prop}{b:Nat}{ty:TypeId}{v:Value}{xs:List α}(h:Own w b ty [v])(hs:Sl E w F v xs):Sl (sliE E) w (λk=>k=b∨F k) (.slice (some ⟨b,0,none⟩) 1 1) [xs]:=
 Sl.lits (xss:=[xs]) h rfl (by unfold maxLen;simp) λi h1 h2=>by
  obtain rfl:i=0:=by simp at h1;omega
  exact hs
theorem Sl.lits2 {α:Type}{E:Enc α}{w:World}{F F':Nat->Prop}{b:Nat}{ty:TypeId}{v v':Value}{xs xs':List α}(h:Own w b ty [v,v'])(hs:Sl E w F v xs)(hs':Sl E w F' v' xs'):Sl (sliE E) w (λk=>k=b∨(F k∨F' k)) (.slice (some ⟨b,0,none⟩) 2 2) [xs,xs']:=
 Sl.lits (xss:=[xs,xs']) h rfl (by unfold maxLen;simp) λi h1 h2=>by
  have h3:i=0∨i=1:=by simp at h1;omega
  rcases h3 with rfl|rfl
  ·exact hs.weak λk hk=>.inl hk
  ·exact hs'.weak λk hk=>.inr hk
section
variable
 {d:Nat}{x y:Operand}{t tr e:TypeId}{pos:String}{after:Array Edge}{α:Type}{E:Enc α}{F:Nat->Prop}
theorem O.loadSl {a:Addr}{z:List α}(hag:∀w,(isAgg t).run P w=.ok false w)(hx:ev n f x=.pointer (some a))(ha:At (sliE E) w F a z)
 (h:∀v,Sl E w F v z->O P n ops rest N Z (upd f d v) w):
 O P n ops (ZO d (.load t x) tr pos after::rest) N Z f w:=
 O.load1 hag rfl hx ha λv hv=>by
  obtain ⟨v',h1,h2⟩:=hv;obtain rfl:v=v':=by simpa using h1
  exact h v h2
end
theorem Wr.lst {ty te:TypeId}{w:World}{bw g:Nat}{xs ys:List UInt8}(h:Wr ty te w bw g xs)(e:xs=ys):Wr ty te w bw g ys:=e ▸ h
theorem OwnF.lit1 {α:Type}{G:Flat α}{ty:TypeId}{B:Nat}{w:World}{b:Nat}{u:Value}{x:α}(hs:G.sz=1)(h:Own0 w b ty [u])(hu:G.e x=[u])(hB:B<=b):OwnF G ty B w (.slice (some ⟨b,0,none⟩) 1 1) [x]:=by
 refine ⟨⟨by rw[G.length],.inr ⟨b,1,#[u],rfl,hB,h,by simp,by unfold maxLen;omega,by simp[hs],?_⟩⟩,by unfold maxLen;simp⟩
 simp[hs,hu]
end Go.Pn
end
section
namespace Go.Pn
open Go.ChangeShapes Go.WideShapes Go.ChangeAt Go.RowKit
section
variable {P:Program}{W:World}{α β γ:Type}{E:Enc α}{E':Enc β}{E'':Enc γ}{Q:α->Prop}{Q':β->Prop}{Q'':γ->Prop}{t e:TypeId}
end
theorem bool_of {P:Program}{W:World}{t:TypeId}{base:Nat}{v:Value}(ht:P.underlying t=some .bool)(hval:Value.okWide P W .any base t v):∃b:Bool,v=.bool b:=okWide_bool ht hval
end Go.Pn
end
section
namespace Go.Pn.Cn
open Go Go.Pn
abbrev Dot:=Dt.Dot
abbrev Mark:=MarkT
abbrev Item:=ItemT
abbrev Ctx:=List Dot×List Dot
abbrev Cart:=Ctx×List Item
instance decItem:DecidableEq Item:=inferInstanceAs (DecidableEq (List UInt8×List MarkT))
instance decCart:DecidableEq Cart:=inferInstanceAs (DecidableEq ((List Dt.Dot×List Dt.Dot)×List Item))
def num (n:Nat):List UInt8:=if n<128 then [UInt8.ofNat n] else UInt8.ofNat (128+n%128)::num (n/128)
termination_by n
decreasing_by omega
theorem num_lt {n:Nat}(h:n<128):num n=[UInt8.ofNat n]:=by rw[num,if_pos h]
theorem num_ge {n:Nat}(h:¬n<128):num n=UInt8.ofNat (128+n%128)::num (n/128):=by rw[num,if_neg h]
def u (x:Int):Nat:=(BitVec.ofInt 64 x).toNat
def dotB (d:Dot):List UInt8:=num (u d.1)++num (u d.2)
def dotsB (l:List Dot):List UInt8:=num l.length++l.flatMap dotB
def ctxB (x:Ctx):List UInt8:=dotsB x.1++dotsB x.2
def markB (m:Mark):List UInt8:=num (u m.1.1)++(num (u m.1.2)++(num (u m.2.1)++num m.2.2.toNat))
def strB (s:List UInt8):List UInt8:=num s.length++s
def itemB (x:Item):List UInt8:=strB x.1++(num x.2.length++x.2.flatMap markB)
def itemsB (l:List Item):List UInt8:=num l.length++l.flatMap itemB
def bytes (c:Cart):List UInt8:=ctxB c.1++itemsB c.2
def get (v:List Dot)(r:Int):Int:=match v.find? (λd=>d.1==r) with
 |some d=>d.2
 |none=>0
def adj {α:Type}(r:α->α->Bool):List α->Bool
 |a::b::l=>r a b&&adj r (b::l)
 |_=>true
def incr (v:List Dot):Bool:=adj (λa b=>decide (a.1<b.1)) v
def okD (d:Dot):Bool:=decide (Dt.Valid d)
def badD (d:Dot):Bool:= !okD d
def vecValid (v:List Dot):Bool:=incr v&& !v.any badD
def ctxValid (x:Ctx):Bool:=vecValid x.1&&(Dt.isSet x.2&& !x.2.any badD)
def near (v:List Dot)(d:Dot):Bool:=decide (d.2<=get v d.1+1)
def isCompact (x:Ctx):Bool:=ctxValid x&& !x.2.any (near x.1)
def okC (c:UInt8):Bool:= !(decide (c.toNat<32)||decide (c.toNat>126))
def okName (s:List UInt8):Bool:=s.all okC&&(decide (1<=s.length∧s.length<=64)&&(decide (Lib.trimB s 32=s)&& !Lib.contains s [32,32]))
def okM (m:Mark):Bool:=okD m.1&&(decide (1<=m.2.1∧m.2.1<=2147483647)&&decide (0<m.2.2.toNat))
def badM (m:Mark):Bool:= !okM m
def mdots (l:List Mark):List Dot:=l.map (·.1)
def badI (x:Item):Bool:= !okName x.1||(decide (x.2.length=0)||(!Dt.isSet (mdots x.2)||x.2.any badM))
def names (l:List Item):Bool:=adj (λa b=>Op.bytesLess a.1 b.1) l
def dotsOf (l:List Item):List Dot:=Dt.set (l.flatMap λx=>mdots x.2)
def count (l:List Item):Nat:=(l.map λx=>x.2.length).sum
def itemsValid (l:List Item):Bool:= !l.any badI&&(names l&&decide ((dotsOf l).length=count l))
def vecHas (v:List Dot)(d:Dot):Bool:=okD d&&decide (d.2<=get v d.1)
def ctxHas (x:Ctx)(d:Dot):Bool:=vecHas x.1 d||(okD d&&decide (d∈x.2))
def missing (x:Ctx)(l:List Dot):List Dot:=(Dt.set l).filter λd=> !ctxHas x d
def valid (c:Cart):Bool:=isCompact c.1&&(itemsValid c.2&&decide ((missing c.1 (dotsOf c.2)).length=0))
def InR (x:Int):Prop:= -9223372036854775808<=x∧x<=9223372036854775807
theorem u_inj {x y:Int}(hx:InR x)(hy:InR y)(h:u x=u y):x=y:=by
 unfold InR at hx hy;unfold u at h;rw[BitVec.toNat_ofInt,BitVec.toNat_ofInt] at h
 omega
theorem num_pre:∀(n m:Nat) (r s:List UInt8),num n++r=num m++s->n=m∧r=s:=by
 intro n
 induction n using Nat.strongRecOn with
 |_ n ih=>
  intro m r s h
  by_cases h1:n<128<;>by_cases h2:m<128
  ·rw [num_lt h1,num_lt h2] at h
   simp only[List.cons_append,List.nil_append,List.cons.injEq] at h;have h3:=congrArg UInt8.toNat h.1;simp only[UInt8.toNat_ofNat'] at h3;exact ⟨by omega,h.2⟩
  ·rw [num_lt h1,num_ge h2] at h
   simp only[List.cons_append,List.nil_append,List.cons.injEq] at h;have h3:=congrArg UInt8.toNat h.1;simp only[UInt8.toNat_ofNat'] at h3
   omega
  ·rw [num_ge h1,num_lt h2] at h
   simp only[List.cons_append,List.nil_append,List.cons.injEq] at h;have h3:=congrArg UInt8.toNat h.1;simp only[UInt8.toNat_ofNat'] at h3
   omega
  ·rw [num_ge h1,num_ge h2] at h
   simp only[List.cons_append,List.cons.injEq] at h;have h3:=congrArg UInt8.toNat h.1;simp only[UInt8.toNat_ofNat'] at h3;obtain ⟨h4,h5⟩:=ih (n/128) (by omega) (m/128) r s h.2;exact ⟨by omega,h5⟩
def Pre {α:Type}(Q:α->Prop)(f:α->List UInt8):Prop:=∀x y r s,Q x->Q y->f x++r=f y++s->x=y∧r=s
theorem pre_u:Pre InR λx=>num (u x):=λx y r s hx hy h=>by
 obtain ⟨h1,h2⟩:=num_pre _ _ _ _ h;exact ⟨u_inj hx hy h1,h2⟩
theorem pre_pair {α β:Type}{Q:α->Prop}{Q':β->Prop}{f:α->List UInt8}{g:β->List UInt8}(h:Pre Q f)(k:Pre Q' g):Pre (λx:α×β=>Q x.1∧Q' x.2) λx=>f x.1++g x.2:=by
 rintro ⟨a,b⟩ ⟨a',b'⟩ r s ⟨h1,h2⟩ ⟨h3,h4⟩ e;simp only[List.append_assoc] at e;obtain ⟨rfl,e2⟩:=h _ _ _ _ h1 h3 e;obtain ⟨rfl,e3⟩:=k _ _ _ _ h2 h4 e2;exact ⟨rfl,e3⟩
theorem pre_many {α:Type}{Q:α->Prop}{f:α->List UInt8}(h:Pre Q f):∀(l l':List α) (r s:List UInt8),(∀x∈l,Q x)->(∀x∈l',Q x)->l.length=l'.length->l.flatMap f++r=l'.flatMap f++s->l=l'∧r=s
 |[],[],r,s,_,_,_,e=>⟨rfl,by simpa using e⟩
 |[],_::_,_,_,_,_,hl,_=>by simp at hl
 |_::_,[],_,_,_,_,hl,_=>by simp at hl
 |a::l,b::l',r,s,h1,h2,hl,e=>by
  simp only[List.flatMap_cons,List.append_assoc] at e;obtain ⟨rfl,e2⟩:=h _ _ _ _ (h1 a (by simp)) (h2 b (by simp)) e;obtain ⟨rfl,e3⟩:=pre_many h l l' r s (λx hx=>h1 x (by simp[hx])) (λx hx=>h2 x (by simp[hx])) (by simpa using hl) e2;exact ⟨rfl,e3⟩
theorem pre_list {α:Type}{Q:α->Prop}{f:α->List UInt8}(h:Pre Q f):Pre (λl:List α=>∀x∈l,Q x) λl=>num l.length++l.flatMap f:=by
 intro l l' r s h1 h2 e;simp only[List.append_assoc] at e;obtain ⟨hl,e2⟩:=num_pre _ _ _ _ e;exact pre_many h l l' r s h1 h2 hl e2
theorem pre_str:Pre (λ_=>True) strB:=by
 intro a b r s _ _ e;unfold strB at e;simp only[List.append_assoc] at e;obtain ⟨hl,e2⟩:=num_pre _ _ _ _ e;exact List.append_inj e2 hl
def dotR (d:Dot):Prop:=InR d.1∧InR d.2
def markR (m:Mark):Prop:=InR m.1.1∧InR m.1.2∧InR m.2.1
def cartR (c:Cart):Prop:=((∀d∈c.1.1,dotR d)∧∀d∈c.1.2,dotR d)∧∀x∈c.2,∀m∈x.2,markR m
theorem pre_dot:Pre dotR dotB:=pre_pair pre_u pre_u
theorem pre_mark:Pre markR markB:=by
 rintro ⟨⟨a,b⟩,q,t⟩ ⟨⟨a',b'⟩,q',t'⟩ r s ⟨h1,h2,h3⟩ ⟨k1,k2,k3⟩ e;unfold markB at e;simp only[List.append_assoc] at e h1 h2 h3 k1 k2 k3;obtain ⟨g1,e1⟩:=pre_u _ _ _ _ h1 k1 e;obtain ⟨g2,e2⟩:=pre_u _ _ _ _ h2 k2 e1;obtain ⟨g3,e3⟩:=pre_u _ _ _ _ h3 k3 e2;obtain ⟨g4,e4⟩:=num_pre _ _ _ _ e3;subst g1;subst g2;subst g3;obtain rfl:=BitVec.eq_of_toNat_eq g4;exact ⟨rfl,e4⟩
theorem pre_item:Pre (λx:Item=>∀m∈x.2,markR m) itemB:=by
 rintro ⟨a,l⟩ ⟨b,l'⟩ r s h k e;unfold itemB at e;have e1:strB a++((num l.length++l.flatMap markB)++r)=strB b++((num l'.length++l'.flatMap markB)++s):=by rw[<-List.append_assoc (strB a),<-List.append_assoc (strB b)];exact e
 obtain ⟨g1,e2⟩:=pre_str _ _ _ _ trivial trivial e1;obtain ⟨g2,e3⟩:=pre_list pre_mark _ _ _ _ h k e2;subst g1;subst g2;exact ⟨rfl,e3⟩
theorem pre_cart:Pre cartR bytes:=by
 rintro ⟨⟨v,w⟩,l⟩ ⟨⟨v',w'⟩,l'⟩ r s ⟨⟨h1,h2⟩,h3⟩ ⟨⟨k1,k2⟩,k3⟩ e;have e1:dotsB v++(dotsB w++(itemsB l++r))=dotsB v'++(dotsB w'++(itemsB l'++s)):=by
  rw[<-List.append_assoc,<-List.append_assoc,<-List.append_assoc (dotsB v'),<-List.append_assoc];exact e
 obtain ⟨g1,e2⟩:=pre_list pre_dot _ _ _ _ h1 k1 e1;obtain ⟨g2,e3⟩:=pre_list pre_dot _ _ _ _ h2 k2 e2;obtain ⟨g3,e4⟩:=pre_list pre_item _ _ _ _ h3 k3 e3;subst g1;subst g2;subst g3;exact ⟨rfl,e4⟩
theorem bytes_inj {a b:Cart}(ha:cartR a)(hb:cartR b):bytes a=bytes b↔a=b:=by
 refine ⟨λh=>(pre_cart a b [] [] ha hb (by rw[h])).1,λh=>by rw[h]⟩
theorem bytes_take {a b:Cart}(ha:cartR a)(hb:cartR b)(h:(bytes b).take (bytes a).length=bytes a):(bytes a).length=(bytes b).length:=by
 have e:bytes a++(bytes b).drop (bytes a).length=bytes b++[]:=by
  conv=>rhs;rw[List.append_nil,<-List.take_append_drop (bytes a).length (bytes b),h]
 obtain ⟨rfl,_⟩:=pre_cart a b _ _ ha hb e
 rfl
theorem u8_eq {a b:UInt8}:a=b↔a.toNat=b.toNat:=⟨λh=>by rw[h],λh=>UInt8.toNat_inj.1 h⟩
end Go.Pn.Cn
end
section
namespace Go.Pn.Cn
open Go Go.Pn
def idx {α:Type}(p:α->Bool):List α->Int
 |[]=> -1
 |a::l=>if p a then 0 else if idx p l= -1 then-1 else idx p l+1
section
variable {α:Type}{p:α->Bool}{l:List α}
theorem idx_ge:∀l:List α,-1<=idx p l
 |[]=>by simp[idx]
 |a::l=>by
  have:=idx_ge l;rw[idx]
  split
  ·omega
  ·split<;>omega
theorem idx_no:∀{l:List α},(∀i,∀h:i<l.length,p l[i]=false)->idx p l= -1
 |[],_=>rfl
 |a::l,h=>by
  have h0:=h 0 (by simp);have h1:=idx_no (l:=l) λi hi=>by
   have:=h (i+1) (by simpa using hi)
   simpa using this
  simp only[List.getElem_cons_zero] at h0;rw[idx,h0,h1]
  rfl
theorem idx_yes:∀{l:List α} {k:Nat} (hk:k<l.length),p l[k]=true->(∀i,∀h:i<l.length,i<k->p l[i]=false)->idx p l=k
 |[],k,hk,_,_=>by simp at hk
 |a::l,0,_,h,_=>by
  simp only[List.getElem_cons_zero] at h;rw[idx,h]
  rfl
 |a::l,k+1,hk,h,hb=>by
  have h0:=hb 0 (by simp) (by omega);simp only[List.getElem_cons_zero] at h0;have h1:=idx_yes (l:=l) (k:=k) (by simpa using hk) (by simpa using h) λi hi hik=>by
   have:=hb (i+1) (by simpa using hi) (by omega)
   simpa using this
  rw[idx,h0,h1,if_neg (by decide),if_neg (by omega)]
  omega
theorem idx_any:∀l:List α,decide (idx p l≥0)=l.any p
 |[]=>rfl
 |a::l=>by
  have ih:=idx_any l;have:=idx_ge (p:=p) l;rw[idx,List.any_cons]
  by_cases h:p a=true
  ·rw [if_pos h,h];rfl
  ·rw [if_neg h]
   have h':p a=false:=by simpa using h
   rw[h',Bool.false_or,<-ih]
   apply decide_eq_decide.2
   split<;>omega
end
section
variable {α:Type}{r:α->α->Bool}
end
theorem idx_at {α:Type}{p:α->Bool}:∀{l:List α} {k:Nat},idx p l=(k:Int)->(∃hk:k<l.length,p l[k]=true)∧∀i,∀h:i<l.length,i<k->p l[i]=false
 |[],k,h=>by simp[idx] at h
 |a::l,k,h=>by
  rw[idx] at h;have h2:=idx_ge (p:=p) l
  split at h
  ·rename_i h1
   obtain rfl:k=0:=by omega
   exact ⟨⟨by simp,by simpa using h1⟩,λi _ hi=>absurd hi (Nat.not_lt_zero _)⟩
  ·rename_i h1
   split at h
   ·omega
   ·obtain ⟨j,rfl⟩:∃j,k=j+1:=⟨k-1,by omega⟩
    obtain ⟨⟨hj,e⟩,hb⟩:=idx_at (p:=p) (l:=l) (k:=j) (by omega);refine ⟨⟨by simpa using hj,by simpa using e⟩,λi hi hik=>?_⟩;cases i with
    |zero=>simpa using h1
    |succ i=>simpa using hb i (by simpa using hi) (by omega)
theorem num_step {m:BitVec 64}(h:¬m.toNat<128):num m.toNat=UInt8.ofBitVec (m.setWidth 8|||128#8)::num (m>>>7).toNat:=by
 have e1:(m>>>7).toNat=m.toNat/128:=by rw[BitVec.toNat_ushiftRight,Nat.shiftRight_eq_div_pow]
 have e2:UInt8.ofNat (128+m.toNat%128)=UInt8.ofBitVec (m.setWidth 8|||128#8):=by
  apply UInt8.toNat_inj.1
  have h1:(UInt8.ofBitVec (m.setWidth 8|||128#8)).toNat=(m.setWidth 8|||128#8).toNat:=rfl;rw[h1,UInt8.toNat_ofNat'];have h2:∀x:BitVec 8,(x|||128#8).toNat=128+x.toNat%128:=by decide+kernel
  rw[h2,BitVec.toNat_setWidth]
  omega
 rw[num_ge h,e1,e2]
theorem num_last {m:BitVec 64}(h:m.toNat<128):num m.toNat=[UInt8.ofBitVec (m.setWidth 8)]:=by
 rw[num_lt h];refine congrArg (λx=>[x]) ?_
 apply UInt8.toNat_inj.1
 have h1:(UInt8.ofBitVec (m.setWidth 8)).toNat=(m.setWidth 8).toNat:=rfl;rw[h1,UInt8.toNat_ofNat',BitVec.toNat_setWidth]
theorem num_step2 {m:BitVec 64}(h:¬m.toNat<128):num m.toNat=UInt8.ofBitVec ((128#64+m%128#64).setWidth 8)::num (m/128#64).toNat:=by
 have e1:(m/128#64).toNat=m.toNat/128:=by rw[BitVec.toNat_udiv];rfl
 have e2:UInt8.ofNat (128+m.toNat%128)=UInt8.ofBitVec ((128#64+m%128#64).setWidth 8):=by
  apply UInt8.toNat_inj.1
  have h1:(UInt8.ofBitVec ((128#64+m%128#64).setWidth 8)).toNat=((128#64+m%128#64).setWidth 8).toNat:=rfl;have h2:(128#64+m%128#64).toNat=128+m.toNat%128:=by
   rw[BitVec.toNat_add,BitVec.toNat_umod]
   simp
   omega
  rw[h1,UInt8.toNat_ofNat',BitVec.toNat_setWidth,h2]
 rw[num_ge h,e1,e2]
theorem num_le (n:Nat):n<2^64->(num n).length<=10:=by
 have key:∀(g n:Nat),n<128^(g+1)->(num n).length<=g+1:=by
  intro g
  induction g with
  |zero=>intro n h;rw[num_lt (by simpa using h)];simp
  |succ g ih=>
   intro n h
   by_cases h1:n<128
   ·rw [num_lt h1];simp
   ·rw [num_ge h1,List.length_cons]
    have:=ih (n/128) (by rw[Nat.div_lt_iff_lt_mul (by decide),<-Nat.pow_succ];exact h)
    omega
 intro h;exact key 9 n (by omega)
theorem num_u (x:BitVec 64):(num x.toNat).length<=10:=num_le _ x.isLt
theorem u_def (x:Int):(BitVec.ofInt 64 x).toNat=u x:=rfl
theorem u_nat {n:Nat}(h:n<2^64):u (n:Int)=n:=by
 unfold u;rw[BitVec.ofInt_natCast,BitVec.toNat_ofNat,Nat.mod_eq_of_lt h]
theorem flatten_take {α:Type}{l:List (List α)}{k:Nat}(hk:k<l.length):(l.take (k+1)).flatten=(l.take k).flatten++l[k]:=by
 rw[List.take_succ_eq_append_getElem hk,List.flatten_append,List.flatten_singleton]
theorem flatten_take_le {α:Type}(l:List (List α))(k:Nat):(l.take k).flatten.length<=l.flatten.length:=by
 conv=>rhs;rw[<-List.take_append_drop k l]
 rw[List.flatten_append,List.length_append]
 omega
theorem num_u' (n:Int):(num (u n)).length<=10:=num_le _ (BitVec.isLt _)
theorem flatMap_le {α β:Type}{f:α->List β}{b:Nat}{l:List α}(h:∀x∈l,(f x).length<=b):(l.flatMap f).length<=b*l.length:=by
 induction l with
 |nil=>simp
 |cons a l ih=>
  have h1:=h a (by simp);have h2:=ih λx hx=>h x (by simp[hx])
  rw[List.flatMap_cons,List.length_append,List.length_cons,Nat.mul_add,Nat.mul_one]
  omega
end Go.Pn.Cn
end
section
namespace Go.Pn
open Go.RowKit
def OG {α:Type}(G:Flat α)(ty:TypeId)(w:World)(v:Value)(g:Nat)(xs:List α):Prop:=OwnF G ty 0 w v xs∧(∀k,bk v k->k=g)∧g<w.heap.size
section
variable {α:Type}{G:Flat α}{ty:TypeId}{w w':World}{v:Value}{g B:Nat}{xs ys:List α}
theorem OG.kM {M:Nat->Prop}(h:OG G ty w v g xs)(e:Ext M w w')(hM:∀k,k=g->¬M k):OG G ty w' v g xs:=⟨h.1.kM e λk hk=>hM k (h.2.1 k hk),h.2.1,e.lt h.2.2⟩
theorem OG.keepA {M:Nat->Prop}(h:OG G ty w v g xs)(e:Ext M w w')(hM:∀k,k=g->¬M k:=by intro k hk h;first|(have q:=hF k hk;(try dsimp only at h);omega)|(have q:=hF2 k hk;(try dsimp only at h);omega)|(have q:=hFb k hk;(try dsimp only at h);omega)|((try dsimp only at hk);(try dsimp only at h);omega)):OG G ty w' v g xs:=OG.kM h e hM
end
section
variable
 {d:Nat}{x y:Operand}{t t' ty tr e:TypeId}{pos:String}{after:Array Edge}{α:Type}{G:Flat α}{F:Nat->Prop}
end
end Go.Pn
end
section
namespace Go.Pn
open Go.RowKit
def chkF:Flat (UInt8×Bool×Bool):=⟨3,λx=>[str [x.1],.bool x.2.1,.bool x.2.2],λ_=>rfl,by simp[Value.oneCell',str],by decide⟩
theorem ones6 {n m:Int}{a b c:List UInt8}{v:Value}(h:v.oneCell'=true):∀u∈([.int .i64 n,str a,str b,str c,.int .i64 m,v]:List Value),u.oneCell'=true:=by
 intro u hu;simp only[List.mem_cons,List.not_mem_nil,or_false] at hu;rcases hu with rfl|rfl|rfl|rfl|rfl|rfl<;>first|rfl|exact h
theorem Sl.fresh {w:World}{F:Nat->Prop}{v:Value}{xs:List UInt8}{B:Nat}(h:Sl byteE w F v xs)(hF:∀j,F j->B<=j):Sl byteE w (λj=>B<=j∧j<w.heap.size) v xs:=by
 obtain ⟨h1,h2|⟨b,off,cap,cur,ty,fr,e,hb,hh,rest⟩⟩:=h
 ·exact ⟨h1,.inl h2⟩
 ·exact ⟨h1,.inr ⟨b,off,cap,cur,ty,fr,e,⟨hF b hb,lt_of_some hh⟩,hh,rest⟩⟩
theorem OwnF.ne_it {α:Type}{G:Flat α}{ty:TypeId}{B b k:Nat}{w:World}{v:Value}{xs:List α}{s:List UInt8}(h:OwnF G ty B w v xs)(i:ItS w b s k):∀j,bk v j->j≠b:=by
 rintro j hj rfl;rcases h.1.2 with ⟨rfl,_⟩|⟨g,cap,cur,rfl,_,hg,_⟩
 ·exact hj
 ·have e:j=g:=hj
  subst e;have:=hg.symm.trans i.1;cases this
theorem OwnF.ne_own {α:Type}{G:Flat α}{ty ty':TypeId}{B b:Nat}{w:World}{v:Value}{xs:List α}{cs:List Value}(h:OwnF G ty B w v xs)(o:Own w b ty' cs)(hne:ty≠ty'):∀j,bk v j->j≠b:=by
 rintro j hj rfl;obtain ⟨fr,ho,_⟩:=o;rcases h.1.2 with ⟨rfl,_⟩|⟨g,cap,cur,rfl,_,hg,_⟩
 ·exact hj
 ·have e:j=g:=hj
  subst e;have:=hg.symm.trans ho;injection this with h1;injection h1 with _ h2 _;exact hne h2
theorem OwnF.apart {α β:Type}{G:Flat α}{G2:Flat β}{ty ty2:TypeId}{B B2:Nat}{w:World}{v v2:Value}{xs:List α}{ys:List β}(h:OwnF G ty B w v xs)(h2:OwnF G2 ty2 B2 w v2 ys)(hne:ty≠ty2):∀j,bk v j->¬bk v2 j:=by
 intro j hj hj2;rcases h2.1.2 with ⟨rfl,_⟩|⟨g,cap,cur,rfl,_,hg,hrest⟩
 ·exact hj2
 ·have e:j=g:=hj2
  subst e;exact h.ne_own ⟨(0,0),by simpa using hg,.inl rfl⟩ hne _ hj rfl
section
variable
 {d:Nat}{x y:Operand}{t t' ty:TypeId}{pos:String}{after:Array Edge}
theorem O.shlI64 {ky:IntKind}{a:Int}{c:Nat}(hx:ev n f x=i64 a)(hy:ev n f y=.int ky (c:Int))(hc:c<=64)(h:O P n ops rest N Z (upd f d (i64 (IntKind.i64.wrap (a*2^c)))) w):
 O P n ops (ZO d (.binOp .shl t x y t') ty pos after::rest) N Z f w:=
 O.val rfl rfl (by
  have h1:¬((c:Int)<0):=by omega
  have e:min ((c:Int).toNat) IntKind.i64.bits=c:=by rw[Int.toNat_natCast];exact Nat.min_eq_left hc
  simp only[execOp,hx,hy,eqGuard,binOp,Op.shift,if_neg h1,e]
  rfl) h
end
end Go.Pn
end
section
namespace Go.Pn.Cn
open Go Go.Pn
def Seg (s l:List UInt8)(k k':Nat):Prop:=l.drop k=s++l.drop k'∧k'=k+s.length∧k'<=l.length
def No {α:Type}(Q:α->Prop)(f:α->List UInt8)(l:List UInt8)(k:Nat):Prop:=∀x r,Q x->l.drop k≠f x++r
section
variable {α β:Type}{Q:α->Prop}{Q':β->Prop}{f:α->List UInt8}{g:β->List UInt8}{s t l r:List UInt8}{k k1 k2:Nat}{x y:α}
theorem Seg.app (h:Seg s l k k1)(h':Seg t l k1 k2):Seg (s++t) l k k2:=
 ⟨by rw[List.append_assoc,<-h'.1,h.1],by rw[List.length_append,h'.2.1,h.2.1];omega,h'.2.2⟩
theorem Seg.cast (h:Seg s l k k1)(e:s=t):Seg t l k k1:=e ▸ h
theorem Seg.of (h:l.drop k=s++r)(hk:k<=l.length):Seg s l k (k+s.length):=by
 have e:l.drop (k+s.length)=r:=by rw[<-List.drop_drop,h,List.drop_left]
 refine ⟨by rw[e,h],rfl,?_⟩;have:=congrArg List.length h;simp only[List.length_drop,List.length_append] at this
 omega
theorem Seg.take (h:s=(l.drop k).take s.length)(hk:k+s.length<=l.length):Seg s l k (k+s.length):=
 Seg.of (r:=(l.drop k).drop s.length) (by rw[show s++(l.drop k).drop s.length=(l.drop k).take s.length++(l.drop k).drop s.length by rw[<-h],List.take_append_drop]) (by omega)
theorem Seg.uniq (h:Seg (f x) l k k1)(hp:Pre Q f)(hx:Q x)(hy:Q y)(e:l.drop k=f y++r):x=y∧l.drop k1=r:=
 hp _ _ _ _ hx hy (h.1.symm.trans e)
theorem No.mono {Q2:α->Prop}(h:No Q f l k)(hq:∀x,Q2 x->Q x):No Q2 f l k:=λx r hx=>h x r (hq x hx)
theorem pre_num:Pre (λ_:BitVec 64=>True) λq=>num q.toNat:=λx y r s _ _ e=>by
 obtain ⟨h1,h2⟩:=num_pre _ _ _ _ e;exact ⟨BitVec.eq_of_toNat_eq h1,h2⟩
theorem u_toInt (q:BitVec 64):u q.toInt=q.toNat:=by unfold u;rw[BitVec.ofInt_toInt]
end
def valN:List UInt8->Nat
 |[]=>0
 |c::l=>c.toNat%128+128*valN l
theorem valN_num (n:Nat):valN (num n)=n:=by
 induction n using Nat.strongRecOn with
 |_ n ih=>
  by_cases h:n<128
  ·rw [num_lt h];simp only[valN,UInt8.toNat_ofNat'];omega
  ·rw [num_ge h];simp only[valN,UInt8.toNat_ofNat',ih (n/128) (by omega)];omega
theorem num_shape (q:Nat):∃init last,num q=init++[last]∧(∀c∈init,128<=c.toNat)∧last.toNat<128∧(q≠0->last.toNat≠0)∧(init≠[]->q≠0)∧last.toNat*128^init.length<=q:=by
 induction q using Nat.strongRecOn with
 |_ q ih=>
  by_cases h:q<128
  ·refine ⟨[],UInt8.ofNat q,by rw[num_lt h];rfl,by simp,?_,?_,by simp,?_⟩
   ·simp only[UInt8.toNat_ofNat'];omega
   ·simp only[UInt8.toNat_ofNat'];omega
   ·simp only[UInt8.toNat_ofNat',List.length_nil,Nat.pow_zero];omega
  ·obtain ⟨init,last,h1,h2,h3,h4,h5,h6⟩:=ih (q/128) (by omega)
   refine ⟨UInt8.ofNat (128+q%128)::init,last,by rw[num_ge h,h1];rfl,?_,h3,λ_=>h4 (by omega),λ_=>by omega,?_⟩
   ·intro c hc
    rcases List.mem_cons.1 hc with rfl|hc
    ·simp only[UInt8.toNat_ofNat'];omega
    ·exact h2 c hc
   ·rw [List.length_cons,Nat.pow_succ,<-Nat.mul_assoc]
    have:=Nat.mul_le_mul_right 128 h6
    omega
theorem num_back:∀(init:List UInt8) (last:UInt8),(∀c∈init,128<=c.toNat)->last.toNat<128->(init≠[]->last.toNat≠0)->num (valN (init++[last]))=init++[last]∧(last.toNat≠0->valN (init++[last])≠0)
 |[],last,_,h2,_=>by
  have e:valN ([]++[last])=last.toNat:=by simp only[List.nil_append,valN];omega
  rw[e,num_lt h2];exact ⟨by simp,λh=>h⟩
 |c::init,last,h1,h2,h3=>by
  obtain ⟨i1,i2⟩:=num_back init last (λx hx=>h1 x (by simp[hx])) h2 (λ_=>h3 (by simp));have hc:=h1 c (by simp);have hc2:=c.toNat_lt;have hv:=i2 (h3 (by simp));have e:valN (c::init++[last])=c.toNat%128+128*valN (init++[last]):=rfl;rw[e];refine ⟨?_,λ_=>by omega⟩;rw[num_ge (by omega),show (c.toNat%128+128*valN (init++[last]))/128=valN (init++[last]) by omega,i1,show (c.toNat%128+128*valN (init++[last]))%128=c.toNat%128 by omega];have:UInt8.ofNat (128+c.toNat%128)=c:=UInt8.toNat_inj.1 (by simp only[UInt8.toNat_ofNat'];omega);rw[this]
  rfl
theorem valN_lt:∀(init:List UInt8) (last:UInt8),last.toNat<128->valN (init++[last])<(last.toNat+1)*128^init.length
 |[],last,h=>by simp only[List.nil_append,valN,List.length_nil,Nat.pow_zero];omega
 |c::init,last,h=>by
  have ih:=valN_lt init last h;have e:valN (c::init++[last])=c.toNat%128+128*valN (init++[last]):=rfl;rw[e,List.length_cons,Nat.pow_succ,<-Nat.mul_assoc]
  omega
def small7 (c:UInt8):Bool:=decide (c.toNat<128)
def endN (x:List UInt8):Int:=idx small7 (x.take 10)
theorem pow9:128^9=9223372036854775808:=by decide
theorem small_len {init:List UInt8}{last:UInt8}{q:Nat}(hq:q<2^64)(h:last.toNat*128^init.length<=q)(h0:init≠[]->last.toNat≠0):init.length<=9∧(init.length=9->last.toNat<=1):=by
 have h1:init.length<=9:=by
  rcases Nat.lt_or_ge 9 init.length with h2|h2
  ·exfalso
   have h3:init≠[]:=by intro h;rw[h] at h2;simp at h2
   have h4:=h0 h3;have h5:128^10<=128^init.length:=Nat.pow_le_pow_right (by decide) h2;have h6:128^10=1180591620717411303424:=by decide
   have h7:1*128^init.length<=last.toNat*128^init.length:=Nat.mul_le_mul_right _ (by omega)
   omega
  ·exact h2
 refine ⟨h1,λh2=>?_⟩;rw[h2,pow9] at h
 omega
theorem num_stands {q:Nat}{x r:List UInt8}(hq:q<2^64)(h:x=num q++r):∃e:Nat,endN x=e∧∃he:e<x.length,e<=9∧num q=x.take (e+1)∧(0<e->x[e].toNat≠0)∧(e=9->x[e].toNat<=1)∧x[e].toNat<128∧∀i,∀hi:i<x.length,i<e->¬x[i].toNat<128:=by
 obtain ⟨init,last,h1,h2,h3,h4,h5,h6⟩:=num_shape q;have h0:init≠[]->last.toNat≠0:=λh=>h4 (h5 h)
 obtain ⟨h7,h8⟩:=small_len hq h6 h0;have hx:x=init++last::r:=by rw[h,h1];simp
 have hl:init.length<x.length:=by rw[hx];simp
 have hget:x[init.length]=last:=by
  have:x[init.length]? =some last:=by rw[hx];simp
  rw[List.getElem?_eq_getElem hl] at this;exact Option.some.inj this
 have hlow:∀i,∀hi:i<x.length,i<init.length->¬x[i].toNat<128:=by
  intro i hi hii;have:x[i]? =some init[i]:=by rw[hx,List.getElem?_append_left hii,List.getElem?_eq_getElem hii]
  rw[List.getElem?_eq_getElem hi] at this;rw[Option.some.inj this];have:=h2 _ (List.getElem_mem hii)
  omega
 refine ⟨init.length,?_,hl,h7,?_,λh=>by rw[hget];exact h0 (by intro h2;rw[h2] at h;simp at h),λh=>by rw[hget];exact h8 h,by rw[hget];exact h3,hlow⟩
 ·unfold endN
  have hl2:init.length<(x.take 10).length:=by rw[List.length_take];omega
  refine idx_yes hl2 ?_ λi hi hii=>?_
  ·rw [List.getElem_take,hget];exact decide_eq_true h3
  ·rw [List.getElem_take];exact dF (hlow i (by rw[List.length_take] at hi;omega) hii)
 ·rw [h1,hx,show init++last::r=(init++[last])++r by simp,List.take_left' (by simp)]
theorem stands_num {x:List UInt8}{e:Nat}(he:e<x.length)(h9:e<=9)(h1:∀i,∀hi:i<x.length,i<e->¬x[i].toNat<128)(h2:x[e].toNat<128)(h3:0<e->x[e].toNat≠0)(h4:e=9->x[e].toNat<=1):
 num (valN (x.take (e+1)))=x.take (e+1)∧valN (x.take (e+1))<2^64:=by
 have hx:x.take (e+1)=x.take e++[x[e]]:=List.take_succ_eq_append_getElem he;have hl:(x.take e).length=e:=by rw[List.length_take];omega
 rw[hx];refine ⟨(num_back _ _ ?_ h2 λh=>h3 ?_).1,?_⟩
 ·intro c hc
  obtain ⟨i,hi,rfl⟩:=List.getElem_of_mem hc;rw[List.getElem_take];have:=h1 i (by omega) (by omega)
  omega
 ·rcases Nat.eq_zero_or_pos e with h0|h0
  ·subst h0;simp at h
  ·exact h0
 ·have h5:=valN_lt (x.take e) x[e] h2
  rw[hl] at h5;rcases Nat.lt_or_ge e 9 with h6|h6
  ·have h7:128^e<=128^8:=Nat.pow_le_pow_right (by decide) (by omega)
   have h8:128^8=72057594037927936:=by decide
   have h9:(x[e].toNat+1)*128^e<=128*128^8:=Nat.mul_le_mul (by omega) h7
   omega
  ·have h7:e=9:=by omega
   have h8:=h4 h7;have h10:128^e=9223372036854775808:=by rw[h7]
   have h9:(x[e].toNat+1)*128^e<=2*128^e:=Nat.mul_le_mul (by omega) (Nat.le_refl _);rw[h10] at h9 h5
   omega
theorem endN_ge (x:List UInt8): -1<=endN x:=idx_ge _
theorem endN_at {x:List UInt8}{e:Nat}(h:endN x=e):e<x.length∧e<=9∧(∀he:e<x.length,x[e].toNat<128)∧∀i,∀hi:i<x.length,i<e->¬x[i].toNat<128:=by
 have h1:=idx_at (p:=small7) (l:=x.take 10) (k:=e) h;obtain ⟨⟨hk,h2⟩,h3⟩:=h1;rw[List.length_take] at hk;refine ⟨by omega,by omega,λhe=>?_,λi hi hie=>?_⟩
 ·rw [List.getElem_take] at h2
  exact of_decide_eq_true h2
 ·have:=h3 i (by rw[List.length_take];omega) hie
  rw[List.getElem_take] at this;exact of_decide_eq_false this
theorem no_num {x:List UInt8}(h:endN x<0∨(0<endN x∧∃he:(endN x).toNat<x.length,x[(endN x).toNat].toNat=0)∨(endN x=9∧∃he:(endN x).toNat<x.length,1<x[(endN x).toNat].toNat))(q:BitVec 64)(r:List UInt8):x≠num q.toNat++r:=by
 intro e;obtain ⟨k,h1,hk,_,_,h2,h3,_,_⟩:=num_stands q.isLt e;rw[h1] at h;simp only[Int.toNat_natCast] at h;rcases h with h|⟨h,_,h4⟩|⟨h,_,h4⟩
 ·omega
 ·exact h2 (by omega) h4
 ·have:=h3 (by omega);omega
theorem valN_step {x:List UInt8}{e i:Nat}(hi:i<=e)(he:e<x.length):valN ((x.take (e+1)).drop i)=(x[i]'(by omega)).toNat%128+128*valN ((x.take (e+1)).drop (i+1)):=by
 have h1:i<(x.take (e+1)).length:=by rw[List.length_take];omega
 rw[List.drop_eq_getElem_cons h1,valN,List.getElem_take]
theorem group (n:Nat)(c:UInt8):(BitVec.ofNat 64 n<<<7)|||((c.toBitVec&&& ~~~128#8).setWidth 64)=BitVec.ofNat 64 (c.toNat%128+128*n):=by
 have h1:(c.toBitVec&&& ~~~128#8)=BitVec.ofNat 8 (c.toNat%128):=by
  have:∀b:BitVec 8,b&&& ~~~128#8=BitVec.ofNat 8 (b.toNat%128):=by decide+kernel
  exact this c.toBitVec
 have hc:c.toNat%128<128:=Nat.mod_lt _ (by decide);rw[h1];have h2:(BitVec.ofNat 64 n<<<7)&&& (BitVec.ofNat 8 (c.toNat%128)).setWidth 64=0#64:=by
  apply BitVec.eq_of_getLsbD_eq
  intro i hi;rw[BitVec.getLsbD_and,BitVec.getLsbD_shiftLeft,BitVec.getLsbD_setWidth]
  by_cases h7:i<7
  ·simp [h7]
  ·have:(BitVec.ofNat 8 (c.toNat%128)).getLsbD i=false:=by
    rw[BitVec.getLsbD_ofNat];have:(c.toNat%128).testBit i=false:=Nat.testBit_lt_two_pow (Nat.lt_of_lt_of_le hc (by rw[show (128:Nat)=2^7 by decide];exact Nat.pow_le_pow_right (by decide) (by omega)))
    simp[this]
   simp[this]
 rw[<-BitVec.add_eq_or_of_and_eq_zero _ _ h2]
 apply BitVec.eq_of_toNat_eq
 simp only[BitVec.toNat_add,BitVec.toNat_shiftLeft,BitVec.toNat_ofNat,BitVec.toNat_setWidth,Nat.shiftLeft_eq]
 omega
end Go.Pn.Cn
end
section
namespace Go.Pn.Cn
open Go Go.Pn
theorem take_min (x:List UInt8):x.take (min x.length 10)=x.take 10:=by
 rw[List.take_eq_take_iff]
 omega
def badN (x:List UInt8)(e:Int):Prop:=e<0∨(0<e∧(x.getD e.toNat 0).toNat=0)∨(e=9∧1<(x.getD e.toNat 0).toNat)
instance (x:List UInt8) (e:Int):Decidable (badN x e):=by unfold badN;infer_instance
theorem getD_at {x:List UInt8}{k:Nat}(h:k<x.length):x.getD k 0=x[k]:=by rw[List.getD_eq_getElem?_getD,List.getElem?_eq_getElem h];rfl
theorem bad_no {l:List UInt8}{k:Nat}{e:Int}(he:e=endN (l.drop k))(h:badN (l.drop k) e):No (λ_:BitVec 64=>True) (λq=>num q.toNat) l k:=by
 intro q r _;refine no_num ?_ q r;subst he;rcases h with h|⟨h,h2⟩|⟨h,h2⟩
 ·exact .inl h
 ·obtain ⟨hx,_⟩:=endN_at (x:=l.drop k) (e:=(endN (l.drop k)).toNat) (by omega)
  rw[getD_at hx] at h2;exact .inr (.inl ⟨h,hx,h2⟩)
 ·obtain ⟨hx,_⟩:=endN_at (x:=l.drop k) (e:=(endN (l.drop k)).toNat) (by omega)
  rw[getD_at hx] at h2;exact .inr (.inr ⟨h,hx,h2⟩)
theorem good_num {l:List UInt8}{k:Nat}{e:Int}(hk:k<=l.length)(he:e=endN (l.drop k))(h:¬badN (l.drop k) e):
 Seg (num (BitVec.ofNat 64 (valN ((l.drop k).take (e.toNat+1)))).toNat) l k (k+(e.toNat+1)):=by
 unfold badN at h;have h0:0<=e:=by omega
 obtain ⟨h1,h2,h3,h4⟩:=endN_at (x:=l.drop k) (e:=e.toNat) (by omega);rw[getD_at h1] at h;obtain ⟨h5,h6⟩:=stands_num h1 h2 h4 (h3 h1) (λ_=>by omega) (λ_=>by omega);rw[BitVec.toNat_ofNat,Nat.mod_eq_of_lt h6,h5];have hl:((l.drop k).take (e.toNat+1)).length=e.toNat+1:=by rw[List.length_take];omega
 have:=Seg.take (l:=l) (k:=k) (s:=(l.drop k).take (e.toNat+1)) (by rw[hl]) (by rw[hl];rw[List.length_drop] at h1;omega);rw[hl] at this;exact this
theorem no_str {l:List UInt8}{k k1:Nat}{n:BitVec 64}{m:Int}(hn:Seg (num n.toNat) l k k1)(h:m<n.toNat∨l.length-k1<n.toNat):No (λs:List UInt8=>(s.length:Int)<=m) strB l k:=by
 intro s r hs e;unfold strB at e;rw[hn.1,List.append_assoc] at e;obtain ⟨h1,h2⟩:=num_pre _ _ _ _ e;have h3:=congrArg List.length h2;simp only[List.length_drop,List.length_append] at h3;have:=hn.2.2
 omega
theorem no_str_len {l:List UInt8}{k:Nat}{m:Int}(h:No (λ_:BitVec 64=>True) (λq=>num q.toNat) l k)(hl:l.length<2^64):No (λs:List UInt8=>(s.length:Int)<=m) strB l k:=by
 intro s r hs e;unfold strB at e;have h3:=congrArg List.length e;simp only[List.length_drop,List.length_append] at h3;refine h (BitVec.ofNat 64 s.length) (s++r) trivial ?_;show l.drop k=num (BitVec.ofNat 64 s.length).toNat++(s++r);rw[BitVec.toNat_ofNat,Nat.mod_eq_of_lt (by omega),e,List.append_assoc]
theorem seg_str {l:List UInt8}{k k1:Nat}{n:BitVec 64}(hn:Seg (num n.toNat) l k k1)(h:n.toNat<=l.length-k1):Seg (strB ((l.drop k1).take n.toNat)) l k (k1+n.toNat):=by
 have hle:=hn.2.2;have hl:((l.drop k1).take n.toNat).length=n.toNat:=by rw[List.length_take,List.length_drop];omega
 have h2:=Seg.take (l:=l) (k:=k1) (s:=(l.drop k1).take n.toNat) (by rw[hl]) (by rw[hl];omega);rw[hl] at h2;unfold strB;rw[hl];exact hn.app h2
theorem no_most {l:List UInt8}{k k1 m:Nat}{n:BitVec 64}(hn:Seg (num n.toNat) l k k1)(h:m<n.toNat):No (λq:BitVec 64=>q.toNat<=m) (λq=>num q.toNat) l k:=by
 intro q r hq e;obtain ⟨rfl,_⟩:=hn.uniq (f:=λq:BitVec 64=>num q.toNat) pre_num trivial trivial e
 omega
end Go.Pn.Cn
end
section
namespace Go.Pn.Dt
open Go.Lib
def text (d:Dot):List UInt8:=itoa d.1++[46]++itoa d.2
theorem ofNat_toNat {k:Nat}(h:k<256):(UInt8.ofNat k).toNat=k:=by simp;omega
theorem dec_digit:∀(u:Nat),∀c∈decDigits u,48<=c.toNat∧c.toNat<=57:=by
 intro u
 induction u using Nat.strongRecOn with
 |_ u ih=>
  intro c hc;rw[decDigits] at hc
  split at hc
  ·rename_i h
   simp only[List.mem_singleton] at hc;subst hc;rw[ofNat_toNat (by omega)]
   omega
  ·rename_i h
   rcases List.mem_append.1 hc with hc|hc
   ·exact ih (u/10) (by omega) c hc
   ·simp only[List.mem_singleton] at hc
    subst hc;rw[ofNat_toNat (by omega)]
    omega
theorem dec_ne (u:Nat):decDigits u≠[]:=by
 rw[decDigits]
 split
 ·simp
 ·simp
theorem parse_dec:∀(u acc:Nat) (rest:List UInt8),acc*10^(decDigits u).length+u<18446744073709551616->
 parseUint10 acc (decDigits u++rest)=parseUint10 (acc*10^(decDigits u).length+u) rest:=by
 intro u
 induction u using Nat.strongRecOn with
 |_ u ih=>
  intro acc rest hb
  by_cases h:u<10
  ·have e:decDigits u=[UInt8.ofNat (48+u)]:=by rw[decDigits,dif_pos h]
   rw[e] at hb ⊢;simp only[List.length_singleton,Nat.pow_one] at hb ⊢;show parseUint10 acc (UInt8.ofNat (48+u)::rest)=_;rw[parseUint10,ofNat_toNat (by omega),if_pos (by omega),if_neg (by omega),if_neg (by omega)]
   congr 1
   omega
  ·have e:decDigits u=decDigits (u/10)++[UInt8.ofNat (48+u%10)]:=by rw[decDigits,dif_neg h]
   have hl:(decDigits u).length=(decDigits (u/10)).length+1:=by rw[e];simp
   rw[hl,Nat.pow_succ] at hb ⊢;have hm:acc*(10^(decDigits (u/10)).length*10)=acc*10^(decDigits (u/10)).length*10:=by rw[Nat.mul_assoc]
   rw[hm] at hb ⊢;rw[e,List.append_assoc,ih (u/10) (by omega) acc _ (by omega)];show parseUint10 _ (UInt8.ofNat (48+u%10)::rest)=_;rw[parseUint10,ofNat_toNat (by omega),if_pos (by omega),if_neg (by omega),if_neg (by omega)]
   congr 1
   omega
theorem atoi_dec {u:Nat}(h:u<9223372036854775808):atoiAll (decDigits u)=.ok (u:Int):=by
 have hp:parseUint10 0 (decDigits u)=.ok u:=by
  have:=parse_dec u 0 [] (by omega);rw[List.append_nil,Nat.zero_mul,Nat.zero_add] at this;rw[this]
  rfl
 have hm:parseMag (decDigits u)=.ok u:=by unfold parseMag;rw[if_neg (dec_ne u)];exact hp
 cases hd:decDigits u with
 |nil=>exact absurd hd (dec_ne u)
 |cons c r=>
  have hc:=dec_digit u c (by rw[hd];simp);rw[hd] at hm;unfold atoiAll;have h1:¬(c.toNat=43∨c.toNat=45):=by omega
  have h2:¬c.toNat=45:=by omega
  have h3:¬(c.toNat=43∨False):=λh=>h1 (h.elim .inl False.elim)
  simp only[h2,not_false_eq_true,true_and,false_and,if_false];rw[if_neg h3,hm];simp only[];rw[if_neg (by omega)]
theorem index_ge:∀(a:List UInt8) (c:UInt8),indexByte a c= -1∨(0<=indexByte a c∧indexByte a c<a.length)
 |[],c=>.inl rfl
 |b::l,c=>by
  have ih:=index_ge l c;unfold indexByte
  split
  ·right;simp
  ·split
   ·exact .inl rfl
   ·rename_i h1 h2
    right
    simp at h2
    simp only[List.length_cons]
    omega
def cut (s:List UInt8):List UInt8×List UInt8:=if 0<=indexByte s 46 then (s.take (indexByte s 46).toNat,s.drop ((indexByte s 46).toNat+1)) else (s,[])
def cap (n:Int):Int:=min 1099511627776 n
theorem dec_len:∀n:Nat,(decDigits n).length<=n+1:=by
 intro n
 induction n using Nat.strongRecOn with
 |_ n ih=>
  rw[decDigits]
  split
  ·simp
  ·have:=ih (n/10) (by omega)
   simp
   omega
end Go.Pn.Dt
end
section
namespace Go.Pn.Vc
open Go Go.Pn Go.Pn.Cn
abbrev V:=List Dt.Dot
def Ok (v:V):Prop:=v.Pairwise (λa b=>a.1<b.1)∧∀d∈v,Dt.Valid d
theorem Ok.tail {a:Dt.Dot}{v:V}(h:Ok (a::v)):Ok v:=⟨(List.pairwise_cons.1 h.1).2,λd hd=>h.2 d (.tail _ hd)⟩
theorem Ok.head {a:Dt.Dot}{v:V}(h:Ok (a::v)):∀d∈v,a.1<d.1:=(List.pairwise_cons.1 h.1).1
theorem get_nil (r:Int):get [] r=0:=rfl
theorem get_cons (a:Dt.Dot)(v:V)(r:Int):get (a::v) r=if a.1=r then a.2 else get v r:=by
 unfold Cn.get
 by_cases h:a.1=r
 ·rw [if_pos h,List.find?_cons_of_pos (by simpa using h)]
 ·rw [if_neg h,List.find?_cons_of_neg (by simpa using h)]
theorem get_zero {v:V}{r:Int}(h:∀d∈v,d.1≠r):get v r=0:=by
 induction v with
 |nil=>rfl
 |cons a v ih=>rw[get_cons,if_neg (h a (.head _)),ih λd hd=>h d (.tail _ hd)]
theorem ext:∀{a b:V},Ok a->Ok b->(∀r,get a r=get b r)->a=b
 |[],[],_,_,_=>rfl
 |[],y::b,_,hb,h=>by
  have:=h y.1;rw[get_cons,if_pos rfl] at this;have h2:=hb.2 y (.head _);unfold Dt.Valid at h2;rw[get_nil] at this
  omega
 |x::a,[],ha,_,h=>by
  have:=h x.1;rw[get_cons,if_pos rfl] at this;have h2:=ha.2 x (.head _);unfold Dt.Valid at h2;rw[get_nil] at this
  omega
 |x::a,y::b,ha,hb,h=>by
  have vx:=ha.2 x (.head _);have vy:=hb.2 y (.head _);unfold Dt.Valid at vx vy;have h1:x.1=y.1:=by
   rcases Int.lt_trichotomy x.1 y.1 with q|q|q
   ·have:=h x.1
    rw[get_cons,if_pos rfl,get_cons,if_neg (by omega),get_zero λd hd=>by have:=hb.head d hd;omega] at this
    omega
   ·exact q
   ·have:=h y.1
    rw[get_cons,get_cons,if_pos rfl,if_neg (by omega),get_zero λd hd=>by have:=ha.head d hd;omega] at this
    omega
  have h2:x.2=y.2:=by
   have:=h x.1;rwa [get_cons,if_pos rfl,get_cons,if_pos h1.symm] at this
  have hxy:x=y:=Prod.ext h1 h2;rw[hxy,ext ha.tail hb.tail λr=>?_]
  by_cases hr:x.1=r
  ·rw [get_zero λd hd=>by have:=ha.head d hd;omega,get_zero λd hd=>by have:=hb.head d hd;omega]
  ·have:=h r
   rwa [get_cons,if_neg hr,get_cons,if_neg (by rw[<-h1];exact hr)] at this
def rgo (d:Dt.Dot):Bool->V->V->V
 |done,out,[]=>if done then out else out++[d]
 |done,out,x::r=>
  let hit:= !done&&decide (x.1≥d.1)
  let out1:=if hit then out++[d] else out
  rgo d (done||hit) (if x.1=d.1 then out1 else out1++[x]) r
def raise (v:V)(d:Dt.Dot):V:=if vecHas v d then v else rgo d false [] v
def of (l:V):V:=l.foldl raise []
def mrg (a b:V):V:=of (a++b)
def order (a b:V):Int:=if a=b then 0 else if mrg a b=b then-1 else if mrg a b=a then 1 else 2
theorem flatten_take {α:Type}{ps:List (List α)}{k:Nat}(h:k<ps.length):(ps.take (k+1)).flatten=(ps.take k).flatten++ps[k]:=by
 rw[List.take_succ_eq_append_getElem h,List.flatten_append]
 simp
theorem flatten_take_le {α:Type}(ps:List (List α))(k:Nat):(ps.take k).flatten.length<=ps.flatten.length:=by
 have:=congrArg (λl:List (List α)=>l.flatten.length) (List.take_append_drop k ps);simp only[List.flatten_append,List.length_append] at this
 omega
end Go.Pn.Vc
end
section
namespace Go.Pn.Vc
open Go Go.Pn Go.Pn.Cn
def jn (l:List (List UInt8)):List UInt8:=Lib.join l [32]
theorem jn_cons (x:List UInt8)(r:List (List UInt8)):jn (x::r)=x++(r.map ([32]++ ·)).flatten:=Lib.join_cons x r [32]
def sp:List UInt8->List (List UInt8)
 |[]=>[[]]
 |c::r=>if c=32 then []::sp r else match sp r with
  |p::q=>(c::p)::q
  |[]=>[[c]]
end Go.Pn.Vc
end
