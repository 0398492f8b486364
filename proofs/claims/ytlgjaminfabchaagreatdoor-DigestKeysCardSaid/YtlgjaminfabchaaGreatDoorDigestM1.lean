/-
 The frame of a walk, control and plain operations: the weakest precondition of the kit over frames that are functions of slots. No condition.
-/
import Derived.WalkKit
import Derived.WalkSpells
import Derived.WalkLawsBesides
import Derived.Laws.AppendOwnNone
import Derived.Great.BuildSlice
import Derived.OrdersHeld
import Derived.Laws.Externs
import Derived.Laws.Cells
import Derived.Laws.Tables
import Derived.Laws.StructEq
import Derived.Deep.Draws
import Derived.Sort.Grow
import Derived.Lib.IndexMore
import Derived.Lib.TrimByte
import Derived.Maps.RangeRun
import Derived.MapKept
section
namespace Go.Pn
open Go.RowKit
abbrev Val:=Nat->Value
abbrev ZO (d:Nat)(op:Op)(ty:TypeId)(pos:String)(after:Array Edge):Oper:={dst:=some d,op:=op,type:=ty,pos:=pos,after:=after,guard:=.none}
theorem nbeq_false {i d:Nat}(h:i≠d):Nat.beq i d=false:=by
 cases hb:Nat.beq i d with
 |false=>rfl
 |true=>exact absurd (Nat.eq_of_beq_eq_true hb) h
theorem cB {a b:Bool}(h:a=b):Value.bool a=Value.bool b:=congrArg Value.bool h
theorem cI {a b:Int}(h:a=b):Value.int .i64 a=Value.int .i64 b:=congrArg (Value.int .i64) h
theorem dF {p:Prop}[Decidable p](h:¬p):decide p=false:=decide_eq_false h
theorem dT {p:Prop}[Decidable p](h:p):decide p=true:=decide_eq_true h
theorem nbeq_self (i:Nat):Nat.beq i i=true:=Nat.beq_refl i
def upd (f:Val)(d:Nat)(v:Value):Val:=λi=>cond (Nat.beq i d) v (f i)
def Fr (n:Nat)(f:Val):Act:={tmps:=((List.range n).map f).toArray,defers:=[]}
def ev (n:Nat)(f:Val):Operand->Value
 |.tmp t=>cond (Nat.ble (t+1) n) (f t) undef
 |.const v=>v
 |.global g=>.pointer (some ⟨g,0,none⟩)
 |.func k=>.func (.func k) #[] #[]
theorem eval_Fr (n:Nat)(f:Val):(Fr n f).eval=ev n f:=by
 funext x
 cases x with
 |tmp t=>
  simp only[Act.eval,Fr,ev,Array.getD_eq_getD_getElem?,List.getElem?_toArray,List.getElem?_map]
  by_cases h:t<n
  ·have:Nat.ble (t+1) n=true:=Nat.ble_eq_true_of_le h
   simp[this,h]
  ·have:Nat.ble (t+1) n=false:=by
    cases hb:Nat.ble (t+1) n with
    |true=>exact absurd (Nat.le_of_ble_eq_true hb) h
    |false=>rfl
   simp[this,h]
 |const v=>rfl
 |global g=>rfl
 |func k=>rfl
theorem put_Fr (n:Nat)(f:Val)(d:Nat)(v:Value):(Fr n f).put (some d) v=Fr n (upd f d v):=by
 simp only[Act.put,Fr,Act.mk.injEq,and_true]
 apply Array.ext_getElem?
 intro i;simp only[Array.getElem?_setIfInBounds,List.getElem?_toArray,List.getElem?_map,List.size_toArray,List.length_map,List.length_range]
 by_cases hi:d=i
 ·subst hi
  by_cases h:d<n
  ·simp [h,upd]
  ·simp [h]
 ·rw [if_neg hi]
  by_cases h:i<n
  ·simp [h,upd,nbeq_false (Ne.symm hi)]
  ·simp [h]
theorem put_none (a:Act)(v:Value):a.put none v=a:=rfl
def Ex (n:Nat)(N:Val->World->Prop)(X:Nat->Val->World->Prop)(R:Val->World->Prop)(Z:List PanicEntry->World->Prop):Exit->Act->World->Prop
 |.normal,a,w=>∃f,a=Fr n f∧N f w
 |.exit i,a,w=>∃f,a=Fr n f∧X i f w
 |.ret,a,w=>∃f,a=Fr n f∧R f w
 |.panic ch,a,w=>a.defers=[]∧Z ch w
 |_,_,_=>False
def C (P:Program)(n:Nat)(c:Code)(N:Val->World->Prop)(X:Nat->Val->World->Prop)(R:Val->World->Prop)(Z:List PanicEntry->World->Prop)(f:Val)(w:World):Prop:=
 c.wp P (Ex n N X R Z) (Fr n f) w
def O (P:Program)(n:Nat)(ops:List Oper)(l:List Oper)(N:Val->World->Prop)(Z:List PanicEntry->World->Prop)(f:Val)(w:World):Prop:=
 wpList P ops.toArray (Ex n N (λ_ _ _=>False) (λ_ _=>False) Z) l (Fr n f) w
section
variable {P:Program}{n:Nat}{N N':Val->World->Prop}{X:Nat->Val->World->Prop}{R:Val->World->Prop}{Z:List PanicEntry->World->Prop}{f:Val}{w:World}{a b c:Code}
theorem C.seqK (h:∀K:Val->World->Prop,(∀f w,C P n b N X R Z f w->K f w)->C P n a K X R Z f w):C P n (.seq a b) N X R Z f w:=by
 have h:=h _ (λ_ _ h=>h);refine wp_seq (wp_mono h ?_);intro e a w he;cases e with
 |normal=>obtain ⟨f,rfl,hb⟩:=he;exact hb
 |exit i=>exact he
 |goto l=>exact he
 |ret=>exact he
 |panic ch=>exact he
 |outgrown=>exact he
theorem C.skip (h:N f w):C P n .skip N X R Z f w:=wp_skip ⟨f,rfl,h⟩
theorem C.ret (h:R f w):C P n .ret N X R Z f w:=wp_ret ⟨f,rfl,h⟩
theorem C.exit {i:Nat}(h:X i f w):C P n (.exit i) N X R Z f w:=wp_exit ⟨f,rfl,h⟩
theorem C.block {i:Nat}(h:∀K:Val->World->Prop,(∀f w,N f w->K f w)->C P n c K (λj f w=>_root_.cond (Nat.beq j i) (K f w) (X j f w)) R Z f w):C P n (.block i c) N X R Z f w:=by
 have h:=h N (λ_ _ h=>h);refine wp_block (wp_mono h ?_);intro e a w he;cases e with
 |normal=>exact he
 |exit j=>
  obtain ⟨f,rfl,hx⟩:=he;simp only[Exit.inBlock]
  by_cases hj:j=i
  ·subst hj
   rw[if_pos rfl];rw[nbeq_self] at hx;exact ⟨f,rfl,hx⟩
  ·rw [if_neg hj]
   rw[nbeq_false hj] at hx;exact ⟨f,rfl,hx⟩
 |goto l=>exact he
 |ret=>exact he
 |panic ch=>exact he
 |outgrown=>exact he
theorem C.cond {x:Operand}{t:Bool}(hx:ev n f x=.bool t)(h1:t=true->C P n a N X R Z f w)(h2:t=false->C P n b N X R Z f w):C P n (.cond x a b) N X R Z f w:=
 wp_cond_split (by rw[eval_Fr];exact hx) h1 h2
theorem C.condD {x:Operand}{p:Prop}[Decidable p](hx:ev n f x=.bool (decide p))(h1:p->C P n a N X R Z f w)(h2:¬p->C P n b N X R Z f w):C P n (.cond x a b) N X R Z f w:=
 C.cond hx (λh=>h1 (of_decide_eq_true h)) (λh=>h2 (of_decide_eq_false h))
theorem C.condT {x:Operand}(hx:ev n f x=.bool true)(h1:C P n a N X R Z f w):C P n (.cond x a b) N X R Z f w:=C.cond hx (λ_=>h1) (λh=>by cases h)
theorem C.condF {x:Operand}(hx:ev n f x=.bool false)(h1:C P n b N X R Z f w):C P n (.cond x a b) N X R Z f w:=C.cond hx (λh=>by cases h) (λ_=>h1)
theorem C.region {id:Nat}{l:List Oper}(h:O P n l l N Z f w):C P n (.region id l.toArray false) N X R Z f w:=
 wp_region_lit (wpList_mono' h)
where
 wpList_mono' (h:O P n l l N Z f w):wpList P l.toArray (Ex n N X R Z) l (Fr n f) w:=by
  have key:∀(l':List Oper) (a:Act) (w:World),wpList P l.toArray (Ex n N (λ_ _ _=>False) (λ_ _=>False) Z) l' a w->wpList P l.toArray (Ex n N X R Z) l' a w:=by
   intro l'
   induction l' with
   |nil=>intro a w h;exact h
   |cons o l' ih=>
    intro a w h;simp only[wpList] at h ⊢
    split at h
    ·rename_i hw
     rw[if_pos hw];rcases h with h|⟨_,a0,w0,h0⟩
     ·left
      simp only[Oper.wp] at h ⊢
      generalize (execOp a.eval o).run P w=r at h ⊢
      cases r with
      |ok nx w'=>
       cases nx with
       |value v=>exact ih _ _ h
       |skip=>exact ih _ _ h
       |defer d=>exact ih _ _ h
       |enter k args=>
        refine Calls.mono h ?_;intro e w'' he;cases e with
        |returned v=>exact ih _ _ he
        |panicked ch=>exact he
        |outgrown=>obtain ⟨a0,w0,h0⟩:=he;exact h0.elim
       |row r args=>exact Rows.mono h λv w'' hv=>ih _ _ hv
       |_=>exact h.elim
      |halt hh w'=>cases hh<;>first|exact h|exact h.elim
     ·exact h0.elim
    ·rename_i hw
     rw[if_neg hw];exact ih _ _ h
  exact key l _ _ h
theorem C.loop {σ:Type}(I:σ->Val->World->Prop)(μ:σ->Nat)(s0:σ)(h0:I s0 f w)
 (round:∀s f w,I s f w->C P n c (λf' w'=>∃s',I s' f' w'∧μ s'<μ s) X R Z f w):C P n (.loop c) N X R Z f w:=by
 intro b k cs;have key:∀m s f w,μ s=m->I s f w->
  ∃e a' w',Ex n N X R Z e a' w'∧Arrives P (lone (b.at (Fr n f) (.code c::.inLoop c::k)) cs w) b k cs e a' w':=by
  intro m
  induction m using Nat.strongRecOn with
  |_ m ih=>
   intro s f w hn hI;obtain ⟨e,a₁,w₁,hq,harr⟩:=round s f w hI b (.inLoop c::k) cs;cases e with
   |normal=>
    obtain ⟨f',rfl,s',hI₁,hlt⟩:=hq;obtain ⟨e₂,a₂,w₂,hq₂,harr₂⟩:=ih (μ s') (hn ▸ hlt) s' f' w₁ rfl hI₁;exact ⟨e₂,a₂,w₂,hq₂,.of_steps (Steps.trans harr (.one step_inLoop)) harr₂⟩
   |exit i=>exact ⟨.exit i,a₁,w₁,hq,.pass (x:=.inLoop c) rfl (λ_ _=>.inl (by simp)) harr⟩
   |goto l=>exact ⟨.goto l,a₁,w₁,hq,.pass (x:=.inLoop c) rfl (λ_ _=>.inl (by simp)) harr⟩
   |ret=>exact ⟨.ret,a₁,w₁,hq,.pass (x:=.inLoop c) rfl (λ_ _=>.inl (by simp)) harr⟩
   |panic ch=>exact ⟨.panic ch,a₁,w₁,hq,.pass (x:=.inLoop c) rfl (λ_ _=>.inl (by simp)) harr⟩
   |outgrown=>exact ⟨.outgrown,a₁,w₁,hq,.pass (x:=.inLoop c) rfl (λ_ _=>.inl (by simp)) harr⟩
 obtain ⟨e,a',w',hq,harr⟩:=key _ s0 f w rfl h0;exact ⟨e,a',w',hq,.of_steps (.one step_loop) harr⟩
theorem C.loop0 {σ:Type}(I:Val->World->σ->Val->World->Prop)(μ:σ->Nat)(s0:σ)(h0:I f w s0 f w)
 (round:∀s f' w',I f w s f' w'->C P n c (λf'' w''=>∃s',I f w s' f'' w''∧μ s'<μ s) X R Z f' w'):C P n (.loop c) N X R Z f w:=
 C.loop (I f w) μ s0 h0 round
theorem C.sr {id:Nat}{l:List Oper}(h:∀{K:Val->World->Prop},(∀{ops:List Oper} {Z':List PanicEntry->World->Prop} {f:Val} {w:World},C P n b N X R Z f w->O P n ops [] K Z' f w)->O P n l l K Z f w):C P n (.seq (.region id l.toArray false) b) N X R Z f w:=
 C.seqK λK hK=>C.region (h (K:=K) λh=>⟨_,rfl,hK _ _ h⟩)
theorem C.sq (h:∀{K:Val->World->Prop},(∀{f:Val} {w:World},C P n b N X R Z f w->K f w)->C P n a K X R Z f w):C P n (.seq a b) N X R Z f w:=
 C.seqK λK hK=>h (K:=K) λh=>hK _ _ h
theorem C.bl {i:Nat}(h:∀{K:Val->World->Prop},(∀{f:Val} {w:World},N f w->K f w)->C P n c K (λj f w=>_root_.cond (Nat.beq j i) (K f w) (X j f w)) R Z f w):C P n (.block i c) N X R Z f w:=
 C.block λK hK=>h (K:=K) λh=>hK _ _ h
theorem C.mono (h:C P n c N X R Z f w)(hN:∀f w,N f w->N' f w):C P n c N' X R Z f w:=by
 refine wp_mono h ?_;intro e a w he;cases e with
 |normal=>obtain ⟨f,rfl,hf⟩:=he;exact ⟨f,rfl,hN _ _ hf⟩
 |exit i=>exact he
 |goto l=>exact he
 |ret=>exact he
 |panic ch=>exact he
 |outgrown=>exact he
end
def Ret (P:Program)(k:FuncId)(args:Array Value)(w:World)(Post:Value->World->Prop):Prop:=
 Calls P k args w λe w'=>match e with|.returned v=>Post v w'|_=>False
def RetZ (P:Program)(k:FuncId)(args:Array Value)(w:World)(Post:Value->World->Prop)(Z:List PanicEntry->World->Prop):Prop:=
 Calls P k args w λe w'=>match e with|.returned v=>Post v w'|.panicked ch=>Z ch w'|.outgrown=>False
theorem Ret.mono {P:Program}{k:FuncId}{args:Array Value}{w:World}{Q Q':Value->World->Prop}(h:Ret P k args w Q)(hq:∀v w',Q v w'->Q' v w'):Ret P k args w Q':=
 Calls.mono h λe w' he=>by cases e<;>first|exact hq _ _ he|exact he
theorem Ret.of {P:Program}{k:FuncId}{args:Array Value}{w:World}{R:Ending->World->Prop}{Q:Value->World->Prop}(h:Calls P k args w R)(hq:∀e w',R e w'->∃v,e=.returned v∧Q v w'):Ret P k args w Q:=
 Calls.mono h λe w' he=>by obtain ⟨v,rfl,hv⟩:=hq e w' he;exact hv
theorem Ret.calls {P:Program}{k:FuncId}{args:Array Value}{w:World}{Q:Value->World->Prop}(h:Ret P k args w Q):Calls P k args w λe w'=>∃v,e=.returned v∧Q v w':=
 Calls.mono h λe w' he=>by cases e<;>first|exact ⟨_,rfl,he⟩|exact he.elim
def init (args:List Value):Val:=λi=>args.getD i undef
theorem Fr_init (n:Nat)(args:List Value)(h:args.length<=n):
 ({tmps:=args.toArray++Array.replicate (n-args.toArray.size) undef,defers:=[]}:Act)=Fr n (init args):=by
 simp only[Fr,Act.mk.injEq,and_true]
 apply Array.ext_getElem?
 intro i;simp only[List.size_toArray,Array.getElem?_append,List.getElem?_toArray,Array.getElem?_replicate,List.getElem?_map]
 by_cases h1:i<args.length
 ·have h2:i<n:=by omega
  simp[h1,h2,init]
 ·by_cases h2:i<n
  ·have:i-args.length<n-args.length:=by omega
   simp[h1,h2,this,init]
  ·have:¬i-args.length<n-args.length:=by omega
   simp[h1,h2,this]
def Outs (P:Program)(fn:Func)(n:Nat)(Post:Value->World->Prop):Val->World->Prop:=
 λf w=>∃v,(results fn (Fr n f).tmps).run P w=.ok v w∧Post v w
theorem enterZ {P:Program}{k:FuncId}{fn:Func}{c:Code}{args:List Value}{n:Nat}{w:World}{Post:Value->World->Prop}{Z:List PanicEntry->World->Prop}
 (hf:P.funcs[k]? =some fn)(hb:fn.body=some c)(hn:fn.ntmps=n)(ha:args.length<=n)
 (h:C P n c (Outs P fn n Post) (λ_ _ _=>False) (Outs P fn n Post) Z (init args) w):RetZ P k args.toArray w Post Z:=by
 subst hn;refine calls_of_wp hf hb ?_;rw[Fr_init _ _ ha];refine wp_mono h ?_;intro e a w he;cases e with
 |normal=>obtain ⟨f,rfl,v,hv,hp⟩:=he;exact ⟨rfl,v,hv,hp⟩
 |ret=>obtain ⟨f,rfl,v,hv,hp⟩:=he;exact ⟨rfl,v,hv,hp⟩
 |exit i=>obtain ⟨f,rfl,hx⟩:=he;exact hx.elim
 |goto l=>exact he.elim
 |panic ch=>exact he
 |outgrown=>exact he.elim
theorem enter {P:Program}{k:FuncId}{fn:Func}{c:Code}{args:List Value}{n:Nat}{w:World}{Post:Value->World->Prop}
 (hf:P.funcs[k]? =some fn)(hb:fn.body=some c)(hn:fn.ntmps=n)(ha:args.length<=n)
 (h:C P n c (Outs P fn n Post) (λ_ _ _=>False) (Outs P fn n Post) (λ_ _=>False) (init args) w):Ret P k args.toArray w Post:=
 Calls.mono (enterZ hf hb hn ha h) λe w' he=>by cases e<;>first|exact he|exact he.elim
theorem leB {a b:Nat}(h:Nat.ble a b=true):a<=b:=Nat.le_of_ble_eq_true h
theorem enT {P:Program}{k:FuncId}{fn:Func}{c:Code}{w:World}{Post:Value->World->Prop}(args:List Value)(n:Nat)
 (hf:P.funcs[k]? =some fn)(hb:fn.body=some c)(hn:fn.ntmps=n)
 (h:C P n c (Outs P fn n Post) (λ_ _ _=>False) (Outs P fn n Post) (λ_ _=>False) (init args) w)(ha:args.length<=n:=by exact Nat.le_of_ble_eq_true rfl):Ret P k args.toArray w Post:=
 enter hf hb hn ha h
theorem getD_Fr (n:Nat)(f:Val)(t:Nat):(Fr n f).tmps.getD t undef=ev n f (.tmp t):=by
 have:=congrFun (eval_Fr n f) (.tmp t);exact this
theorem Outs.one {P:Program}{fn:Func}{n:Nat}{Post:Value->World->Prop}{f:Val}{w:World}{t:Nat}{v:Value}(hr:fn.results=#[.tmp t])(hv:ev n f (.tmp t)=v)(h:Post v w):Outs P fn n Post f w:=
 ⟨v,by rw[results_tmp hr,getD_Fr,hv],h⟩
theorem Outs.none {P:Program}{fn:Func}{n:Nat}{Post:Value->World->Prop}{f:Val}{w:World}(hr:fn.results=#[])(h:Post (.tuple #[]) w):Outs P fn n Post f w:=
 ⟨_,by rw[results_none hr],h⟩
theorem Outs.two {P:Program}{fn:Func}{n:Nat}{Post:Value->World->Prop}{f:Val}{w:World}{t u:Nat}{v v':Value}(hr:fn.results=#[.tmp t,.tmp u])(hv:ev n f (.tmp t)=v)(hv':ev n f (.tmp u)=v')(h:Post (.tuple #[v,v']) w):Outs P fn n Post f w:=
 ⟨_,by rw[results_tmp2 hr,getD_Fr,getD_Fr,hv,hv'],h⟩
section
variable {P:Program}{n:Nat}{N:Val->World->Prop}{X:Nat->Val->World->Prop}{Z:List PanicEntry->World->Prop}{f:Val}{w:World}
theorem C.r1 {fn:Func}{Post:Value->World->Prop}{t:Nat}(h:Post (ev n f (.tmp t)) w)(hr:fn.results=#[.tmp t]:=by rfl):C P n .ret N X (Outs P fn n Post) Z f w:=C.ret (Outs.one hr rfl h)
theorem C.r2 {fn:Func}{Post:Value->World->Prop}{t u:Nat}(h:Post (.tuple #[ev n f (.tmp t),ev n f (.tmp u)]) w)(hr:fn.results=#[.tmp t,.tmp u]:=by rfl):C P n .ret N X (Outs P fn n Post) Z f w:=C.ret (Outs.two hr rfl rfl h)
end
section
variable {P:Program}{n:Nat}{ops rest:List Oper}{N:Val->World->Prop}{Z:List PanicEntry->World->Prop}{f:Val}{w:World}
theorem O.o (h:N f w):O P n ops [] N Z f w:=⟨f,rfl,h⟩
theorem O.val {o:Oper}{d:Nat}{v:Value}{w':World}(hg:o.guard=.none)(hd:o.dst=some d)(hrun:(execOp (ev n f) o).run P w=.ok (.value v) w')
 (h:O P n ops rest N Z (upd f d v) w'):O P n ops (o::rest) N Z f w:=by
 unfold O at h ⊢;refine wpList_plain hg λK hK=>?_
 simp only[Oper.wp,eval_Fr,hrun,Oper.upon_value,hd,put_Fr];exact hK _ _ h
theorem O.act {o:Oper}{w':World}(hg:o.guard=.none)(hd:o.dst=.none)(hrun:(execOp (ev n f) o).run P w=.ok .skip w')
 (h:O P n ops rest N Z f w'):O P n ops (o::rest) N Z f w:=by
 unfold O at h ⊢;refine wpList_plain hg λK hK=>?_
 simp only[Oper.wp,eval_Fr,hrun,Oper.upon_skip,hd,put_none];exact hK _ _ h
theorem O.valN {o:Oper}{v:Value}{w':World}(hg:o.guard=.none)(hd:o.dst=.none)(hrun:(execOp (ev n f) o).run P w=.ok (.value v) w')
 (h:O P n ops rest N Z f w'):O P n ops (o::rest) N Z f w:=by
 unfold O at h ⊢;refine wpList_plain hg λK hK=>?_
 simp only[Oper.wp,eval_Fr,hrun,Oper.upon_value,hd,put_none];exact hK _ _ h
theorem O.cast {d:Nat}{v v':Value}(hv:v=v')(h:O P n ops rest N Z (upd f d v') w):O P n ops rest N Z (upd f d v) w:=hv ▸ h
theorem O.yes {dst:Option Nat}{op:Op}{ty:TypeId}{pos:String}{after:Array Edge}{j dj:Nat}{b:Bool}
 (hj:(ops[j]?).bind (·.dst)=some dj)(hv:ev n f (.tmp dj)=.bool b)
 (h:O P n ops ({dst:=dst,op:=op,type:=ty,pos:=pos,after:=after,guard:=.none}::rest) N Z f w):
 O P n ops ({dst:=dst,op:=op,type:=ty,pos:=pos,after:=after,guard:=some (j,b)}::rest) N Z f w:=by
 unfold O at h ⊢;have hy:yielded ops.toArray (Fr n f).tmps j=some b:=by
  have hd:=getD_Fr n f dj;rw[hv] at hd;unfold yielded;have h1:(ops.toArray[j]?).bind (·.dst)=some dj:=by simpa using hj
  rw[h1];simp only[Option.bind_some];rw[Array.getD_eq_getD_getElem?] at hd;cases hx:(Fr n f).tmps[dj]? with
  |none=>rw[hx] at hd;simp[undef] at hd
  |some v=>rw[hx] at hd;simp at hd;subst hd;rfl
 simp only[wpList,Region.wanted,hy,beq_self_eq_true,if_true] at h ⊢;exact h
def isB (b:Bool):Value->Bool
 |.bool c=>c==b
 |_=>false
theorem O.no {d:Nat}{op:Op}{ty:TypeId}{pos:String}{after:Array Edge}{j dj:Nat}{b:Bool}
 (hj:(ops[j]?).bind (·.dst)=some dj)(hv:isB b (ev n f (.tmp dj))=false)
 (h:O P n ops rest N Z (upd f d undef) w):
 O P n ops ({dst:=some d,op:=op,type:=ty,pos:=pos,after:=after,guard:=some (j,b)}::rest) N Z f w:=by
 unfold O at h ⊢;have hy:(yielded ops.toArray (Fr n f).tmps j==some b)=false:=by
  have hd:=getD_Fr n f dj;unfold yielded;have h1:(ops.toArray[j]?).bind (·.dst)=some dj:=by simpa using hj
  rw[h1];simp only[Option.bind_some];rw[Array.getD_eq_getD_getElem?] at hd;cases hx:(Fr n f).tmps[dj]? with
  |none=>rfl
  |some v=>
   rw[hx] at hd
   simp at hd
   rw[<-hd] at hv;cases v<;>first|rfl|(simp[isB] at hv;simp;exact hv)
 simp only[wpList,Region.wanted,hy];rw[put_Fr]
 simpa using h
theorem O.call {d k:Nat}{xs:List Operand}{vs:List Value}{ats:Array TypeId}{ty:TypeId}{pos:String}{after:Array Edge}{Post:Value->World->Prop}
 (hk:∀args w,(callFunc k args).run P w=.ok (.enter k args) w)(hxs:xs.map (ev n f)=vs)
 (hc:Ret P k vs.toArray w Post)(h:∀v w',Post v w'->O P n ops rest N Z (upd f d v) w'):
 O P n ops (ZO d (.call {callee:=.value (.func k),args:=xs.toArray,argTypes:=ats}) ty pos after::rest) N Z f w:=by
 subst hxs;unfold O at h ⊢;refine wpList_plain rfl λK hK=>?_
 have hrun:(execOp (ev n f) (ZO d (.call {callee:=.value (.func k),args:=xs.toArray,argTypes:=ats}) ty pos after)).run P w=.ok (.enter k (xs.map (ev n f)).toArray) w:=by
  simp[execOp,resolve,Deferred.ofValue,invoke,ev,hk]
 simp only[Oper.wp,eval_Fr,hrun,Oper.upon_enter];refine Calls.mono hc ?_;intro e w' he;cases e with
 |returned v=>show K ((Fr n f).put (some d) v) w';rw[put_Fr];exact hK _ _ (h v w' he)
 |panicked ch=>exact he.elim
 |outgrown=>exact he.elim
theorem args1 {x0:Operand}{v0:Value}(h0:ev n f x0=v0):[x0].map (ev n f)=[v0]:=by simp[h0]
theorem args2 {x0 x1:Operand}{v0 v1:Value}(h0:ev n f x0=v0)(h1:ev n f x1=v1):[x0,x1].map (ev n f)=[v0,v1]:=by simp[h0,h1]
theorem args3 {x0 x1 x2:Operand}{v0 v1 v2:Value}(h0:ev n f x0=v0)(h1:ev n f x1=v1)(h2:ev n f x2=v2):[x0,x1,x2].map (ev n f)=[v0,v1,v2]:=by simp[h0,h1,h2]
theorem args4 {x0 x1 x2 x3:Operand}{v0 v1 v2 v3:Value}(h0:ev n f x0=v0)(h1:ev n f x1=v1)(h2:ev n f x2=v2)(h3:ev n f x3=v3):[x0,x1,x2,x3].map (ev n f)=[v0,v1,v2,v3]:=by simp[h0,h1,h2,h3]
theorem args5 {x0 x1 x2 x3 x4:Operand}{v0 v1 v2 v3 v4:Value}(h0:ev n f x0=v0)(h1:ev n f x1=v1)(h2:ev n f x2=v2)(h3:ev n f x3=v3)(h4:ev n f x4=v4):[x0,x1,x2,x3,x4].map (ev n f)=[v0,v1,v2,v3,v4]:=by simp[h0,h1,h2,h3,h4]
theorem O.mv {d:Nat}{x:Operand}{ty:TypeId}{pos:String}{after:Array Edge}
 (h:O P n ops rest N Z (upd f d (ev n f x)) w):
 O P n ops (ZO d (.move x) ty pos after::rest) N Z f w:=
 O.val rfl rfl rfl h
theorem O.j {d:Nat}{x:Operand}{ty:TypeId}{pos:String}{after:Array Edge}
 (h:O P n ops rest N Z (upd f d (ev n f x)) w):
 O P n ops (ZO d (.assign x) ty pos after::rest) N Z f w:=
 O.val rfl rfl rfl h
theorem O.pickT {d:Nat}{c x y:Operand}{ty:TypeId}{pos:String}{after:Array Edge}(hc:ev n f c=.bool true)
 (h:O P n ops rest N Z (upd f d (ev n f x)) w):
 O P n ops (ZO d (.pick c x y) ty pos after::rest) N Z f w:=
 O.val rfl rfl (by simp[execOp,hc,asBool]) h
theorem O.pickF {d:Nat}{c x y:Operand}{ty:TypeId}{pos:String}{after:Array Edge}(hc:ev n f c=.bool false)
 (h:O P n ops rest N Z (upd f d (ev n f y)) w):
 O P n ops (ZO d (.pick c x y) ty pos after::rest) N Z f w:=
 O.val rfl rfl (by simp[execOp,hc,asBool]) h
theorem O.extract {d i:Nat}{x:Operand}{vs:Array Value}{v:Value}{ty:TypeId}{pos:String}{after:Array Edge}(hx:ev n f x=.tuple vs)(hv:vs[i]? =some v)
 (h:O P n ops rest N Z (upd f d v) w):
 O P n ops (ZO d (.extract x i) ty pos after::rest) N Z f w:=
 O.val rfl rfl (by simp[execOp,hx,Instr.extract,hv]) h
theorem O.not {d:Nat}{x:Operand}{b:Bool}{t ty:TypeId}{pos:String}{after:Array Edge}(hx:ev n f x=.bool b)
 (h:O P n ops rest N Z (upd f d (.bool (!b))) w):
 O P n ops (ZO d (.unOp .not t x) ty pos after::rest) N Z f w:=
 O.val rfl rfl (by simp[execOp,hx,Op.unary]) h
theorem O.split {b:Bool}{l:List Oper}{x:Operand}(_:ev n f x=.bool b)(h1:b=true->O P n ops l N Z f w)(h2:b=false->O P n ops l N Z f w):O P n ops l N Z f w:=by
 cases b
 ·exact h2 rfl
 ·exact h1 rfl
theorem O.splitD {p:Prop}[Decidable p]{l:List Oper}{x:Operand}(_:ev n f x=.bool (decide p))(h1:p->O P n ops l N Z f w)(h2:¬p->O P n ops l N Z f w):O P n ops l N Z f w:=by
 by_cases h:p
 ·exact h1 h
 ·exact h2 h
theorem dAnd {A B:Prop}[Decidable A][Decidable B](h:A):decide B=decide (A∧B):=by simp[h]
theorem dAndF {A B:Prop}[Decidable A][Decidable B](h:¬A):false=decide (A∧B):=by simp[h]
theorem dOr {A B:Prop}[Decidable A][Decidable B](h:¬A):decide B=decide (A∨B):=by simp[h]
theorem dOrT {A B:Prop}[Decidable A][Decidable B](h:A):true=decide (A∨B):=by simp[h]
theorem dJ {v:Value}{a b:Bool}(h:v=.bool a)(e:a=b:=by first|rfl|exact dAnd (by assumption)|exact dAndF (by assumption)|exact dOr (by assumption)|exact dOrT (by assumption)):v=.bool b:=e ▸ h
theorem isT {v:Value}{p:Prop}[Decidable p](hv:v=.bool (decide p))(h:p):v=.bool true:=by rw[hv,decide_eq_true h]
theorem isF {v:Value}{p:Prop}[Decidable p](hv:v=.bool (decide p))(h:¬p):v=.bool false:=by rw[hv,decide_eq_false h]
theorem isT' {v:Value}{b:Bool}(hv:v=.bool b)(h:b=true):v=.bool true:=by rw[hv,h]
theorem isF' {v:Value}{b:Bool}(hv:v=.bool b)(h:b=false):v=.bool false:=by rw[hv,h]
theorem noB {v:Value}{b:Bool}{c:Bool}(hv:v=.bool b)(h:(b==c)=false):isB c v=false:=by rw[hv];exact h
theorem noU {v:Value}{c:Bool}(hv:v=undef):isB c v=false:=by rw[hv];rfl
theorem O.cut (k:Nat)(J:Val->Val->Prop){l:List Oper}(h1:O P n ops (l.take k) (λf' w'=>J f f'∧w'=w) Z f w)(h2:∀f',J f f'->O P n ops (l.drop k) N Z f' w):O P n ops l N Z f w:=by
 have key:∀(a b:List Oper) (M:Val->World->Prop) (x:Act) (u:World),
  wpList P ops.toArray (Ex n M (λ_ _ _=>False) (λ_ _=>False) Z) a x u->(∀f' w',M f' w'->wpList P ops.toArray (Ex n N (λ_ _ _=>False) (λ_ _=>False) Z) b (Fr n f') w')->
  wpList P ops.toArray (Ex n N (λ_ _ _=>False) (λ_ _=>False) Z) (a++b) x u:=by
  intro a b M
  induction a with
  |nil=>intro x u h hm;obtain ⟨f',rfl,h⟩:=h;exact hm _ _ h
  |cons o a ih=>
   intro x u h hm;simp only[wpList,List.cons_append] at h ⊢
   split at h
   ·rename_i hw
    rw[if_pos hw];rcases h with h|⟨_,a0,w0,h0⟩
    ·left
     simp only[Oper.wp] at h ⊢
     generalize (execOp x.eval o).run P u=r at h ⊢
     cases r with
     |ok nx w'=>
      cases nx with
      |value v=>exact ih _ _ h hm
      |skip=>exact ih _ _ h hm
      |defer d=>exact ih _ _ h hm
      |enter k args=>
       refine Calls.mono h ?_;intro e w'' he;cases e with
       |returned v=>exact ih _ _ he hm
       |panicked ch=>exact he
       |outgrown=>obtain ⟨a0,w0,h0⟩:=he;exact h0.elim
      |row r args=>exact Rows.mono h λv w'' hv=>ih _ _ hv hm
      |_=>exact h.elim
     |halt hh w'=>cases hh<;>first|exact h|exact h.elim
    ·exact h0.elim
   ·rename_i hw
    rw[if_neg hw];exact ih _ _ h hm
 have:=key (l.take k) (l.drop k) _ _ _ h1 (λf' w' hm=>by obtain ⟨hj,rfl⟩:=hm;exact h2 f' hj);rw[List.take_append_drop] at this;exact this
end
end Go.Pn
end
variable {P:Go.Program}{n:Nat}{ops rest:List Go.Oper}{N:Go.Pn.Val->Go.World->Prop}{Z:List Go.PanicEntry->Go.World->Prop}{f:Go.Pn.Val}{w:Go.World}
section
namespace Go.Pn
open Go.RowKit
abbrev i64 (n:Int):Value:=.int .i64 n
def InI (n:Int):Prop:= -9223372036854775808<=n∧n<=9223372036854775807
def str (l:List UInt8):Value:=.string ⟨l.toArray⟩
theorem wrap_in {n:Int}(h:InI n):IntKind.i64.wrap n=n:=by
 unfold InI at h;have e:IntKind.i64.wrap n=if (true&&decide (n%18446744073709551616≥9223372036854775808))=true then n%18446744073709551616-18446744073709551616 else n%18446744073709551616:=rfl;rw[e]
 by_cases h0:0<=n
 ·rw [Int.emod_eq_of_lt h0 (by omega)]
  simp;omega
 ·have:n%18446744073709551616=n+18446744073709551616:=by omega
  rw[this]
  simp;omega
theorem ofInt_nat {m:Nat}(x:BitVec m):BitVec.ofInt m (x.toNat:Int)=x:=by
 apply BitVec.eq_of_toNat_eq
 rw[BitVec.toNat_ofInt];have h:=x.isLt;have:((x.toNat:Int)%((2^m:Nat):Int)).toNat=x.toNat:=by
  rw[Int.emod_eq_of_lt (by omega) (by exact_mod_cast h)];omega
 exact this
theorem wrap_u {k:IntKind}{m:Nat}(hk:k.bits=m)(hs:k.signed=false)(n:Int):k.wrap n=((BitVec.ofInt m n).toNat:Int):=by
 subst hk;simp only[IntKind.wrap,hs,Bool.false_and,Bool.false_eq_true,if_false,BitVec.toNat_ofInt];have h2:(0:Int)<2^k.bits:=Int.pow_pos (by decide);have:=Int.emod_nonneg n (Int.ne_of_gt h2);have e:((2^k.bits:Nat):Int)=(2:Int)^k.bits:=by norm_cast
 rw[e];omega
theorem wrap_u_nat {k:IntKind}{m:Nat}(hk:k.bits=m)(hs:k.signed=false)(x:BitVec m):k.wrap (x.toNat:Int)=(x.toNat:Int):=by
 rw[wrap_u hk hs,ofInt_nat]
section
variable
 {d:Nat}{x y:Operand}{t t' ty:TypeId}{pos:String}{after:Array Edge}
section
variable {a b:Int}
theorem O.addI (hx:ev n f x=i64 a)(hy:ev n f y=i64 b)(hb:InI (a+b))(h:O P n ops rest N Z (upd f d (i64 (a+b))) w):
 O P n ops (ZO d (.binOp .add t x y t') ty pos after::rest) N Z f w:=
 O.val rfl rfl (by simp[execOp,hx,hy,eqGuard,binOp,Op.intArith,wrap_in hb]) h
theorem O.subI (hx:ev n f x=i64 a)(hy:ev n f y=i64 b)(hb:InI (a-b))(h:O P n ops rest N Z (upd f d (i64 (a-b))) w):
 O P n ops (ZO d (.binOp .sub t x y t') ty pos after::rest) N Z f w:=
 O.val rfl rfl (by simp[execOp,hx,hy,eqGuard,binOp,Op.intArith,wrap_in hb]) h
theorem O.ad (hx:ev n f x=i64 a)(hy:ev n f y=i64 b)(h:O P n ops rest N Z (upd f d (i64 (a+b))) w)(hb:InI (a+b):=by unfold InI;omega):O P n ops (ZO d (.binOp .add t x y t') ty pos after::rest) N Z f w:=O.addI hx hy hb h
theorem O.sb (hx:ev n f x=i64 a)(hy:ev n f y=i64 b)(h:O P n ops rest N Z (upd f d (i64 (a-b))) w)(hb:InI (a-b):=by unfold InI;omega):O P n ops (ZO d (.binOp .sub t x y t') ty pos after::rest) N Z f w:=O.subI hx hy hb h
theorem O.lssI (hx:ev n f x=i64 a)(hy:ev n f y=i64 b)(h:O P n ops rest N Z (upd f d (.bool (decide (a<b)))) w):
 O P n ops (ZO d (.binOp .lss t x y t') ty pos after::rest) N Z f w:=
 O.val rfl rfl (by simp[execOp,hx,hy,eqGuard,binOp,Op.intCmp]) h
theorem O.leqI (hx:ev n f x=i64 a)(hy:ev n f y=i64 b)(h:O P n ops rest N Z (upd f d (.bool (decide (a<=b)))) w):
 O P n ops (ZO d (.binOp .leq t x y t') ty pos after::rest) N Z f w:=
 O.val rfl rfl (by simp[execOp,hx,hy,eqGuard,binOp,Op.intCmp]) h
theorem O.gtrI (hx:ev n f x=i64 a)(hy:ev n f y=i64 b)(h:O P n ops rest N Z (upd f d (.bool (decide (b<a)))) w):
 O P n ops (ZO d (.binOp .gtr t x y t') ty pos after::rest) N Z f w:=
 O.val rfl rfl (by simp[execOp,hx,hy,eqGuard,binOp,Op.intCmp]) h
theorem O.geqI (hx:ev n f x=i64 a)(hy:ev n f y=i64 b)(h:O P n ops rest N Z (upd f d (.bool (decide (b<=a)))) w):
 O P n ops (ZO d (.binOp .geq t x y t') ty pos after::rest) N Z f w:=
 O.val rfl rfl (by simp[execOp,hx,hy,eqGuard,binOp,Op.intCmp]) h
theorem O.eqlI (hx:ev n f x=i64 a)(hy:ev n f y=i64 b)(h:O P n ops rest N Z (upd f d (.bool (decide (a=b)))) w):
 O P n ops (ZO d (.binOp .eql t x y t') ty pos after::rest) N Z f w:=
 O.val rfl rfl (by
  have e:(a==b)=decide (a=b):=by by_cases h:a=b<;>simp[h]
  simp[execOp,hx,hy,eqGuard,binOp,Op.intCmp,e]) h
theorem O.neqI (hx:ev n f x=i64 a)(hy:ev n f y=i64 b)(h:O P n ops rest N Z (upd f d (.bool (decide (a≠b)))) w):
 O P n ops (ZO d (.binOp .neq t x y t') ty pos after::rest) N Z f w:=
 O.val rfl rfl (by
  have e:(a !=b)=decide (a≠b):=by by_cases h:a=b<;>simp[h]
  simp[execOp,hx,hy,eqGuard,binOp,Op.intCmp,e]) h
end
theorem i64_eq {a b:Int}(h:a=b):i64 a=i64 b:=by rw[h]
section
variable {k:IntKind}{m:Nat}{a b:BitVec m}
theorem O.mulU (hk:k.bits=m)(hs:k.signed=false)(hx:ev n f x=.int k (a.toNat:Int))(hy:ev n f y=.int k (b.toNat:Int))(h:O P n ops rest N Z (upd f d (.int k ((a*b).toNat:Int))) w):
 O P n ops (ZO d (.binOp .mul t x y t') ty pos after::rest) N Z f w:=
 O.val rfl rfl (by
  have e:k.wrap ((a.toNat:Int)*(b.toNat:Int))=((a*b).toNat:Int):=by
   rw[wrap_u hk hs,BitVec.ofInt_mul,ofInt_nat,ofInt_nat]
  simp[execOp,hx,hy,eqGuard,binOp,Op.intArith,e]) h
theorem O.quoU (hk:k.bits=m)(hs:k.signed=false)(hx:ev n f x=.int k (a.toNat:Int))(hy:ev n f y=.int k (b.toNat:Int))(hb:b.toNat≠0)(h:O P n ops rest N Z (upd f d (.int k ((a/b).toNat:Int))) w):
 O P n ops (ZO d (.binOp .quo t x y t') ty pos after::rest) N Z f w:=
 O.val rfl rfl (by
  have h1:¬((b.toNat:Int)=0):=by omega
  have e:k.wrap ((a.toNat:Int).tdiv (b.toNat:Int))=((a/b).toNat:Int):=by
   rw[Int.tdiv_eq_ediv_of_nonneg (by omega),<-Int.natCast_ediv,<-BitVec.toNat_udiv,wrap_u_nat hk hs]
  simp only[execOp,hx,hy,eqGuard,binOp,Op.intDiv,if_neg h1,e,ne_eq,not_true_eq_false, ↓reduceIte]
  rfl) h
theorem O.remU (hk:k.bits=m)(hs:k.signed=false)(hx:ev n f x=.int k (a.toNat:Int))(hy:ev n f y=.int k (b.toNat:Int))(hb:b.toNat≠0)(h:O P n ops rest N Z (upd f d (.int k ((a%b).toNat:Int))) w):
 O P n ops (ZO d (.binOp .rem t x y t') ty pos after::rest) N Z f w:=
 O.val rfl rfl (by
  have h1:¬((b.toNat:Int)=0):=by omega
  have e:((a.toNat:Int).tmod (b.toNat:Int))=((a%b).toNat:Int):=by
   rw[Int.tmod_eq_emod_of_nonneg (by omega),<-Int.natCast_emod,<-BitVec.toNat_umod]
  have _:=hk;have _:=hs;simp only[execOp,hx,hy,eqGuard,binOp,Op.intDiv,if_neg h1,e,ne_eq,not_true_eq_false, ↓reduceIte]
  rfl) h
theorem O.orU (hk:k.bits=m)(hs:k.signed=false)(hx:ev n f x=.int k (a.toNat:Int))(hy:ev n f y=.int k (b.toNat:Int))(h:O P n ops rest N Z (upd f d (.int k ((a|||b).toNat:Int))) w):
 O P n ops (ZO d (.binOp .or t x y t') ty pos after::rest) N Z f w:=
 O.val rfl rfl (by
  subst hk;simp only[execOp,hx,hy,eqGuard,binOp,Op.intBits,ofInt_nat,wrap_u_nat rfl hs,ne_eq,not_true_eq_false, ↓reduceIte]
  rfl) h
theorem O.xorU (hk:k.bits=m)(hs:k.signed=false)(hx:ev n f x=.int k (a.toNat:Int))(hy:ev n f y=.int k (b.toNat:Int))(h:O P n ops rest N Z (upd f d (.int k ((a^^^b).toNat:Int))) w):
 O P n ops (ZO d (.binOp .xor t x y t') ty pos after::rest) N Z f w:=
 O.val rfl rfl (by
  subst hk;simp only[execOp,hx,hy,eqGuard,binOp,Op.intBits,ofInt_nat,wrap_u_nat rfl hs,ne_eq,not_true_eq_false, ↓reduceIte]
  rfl) h
theorem O.shlU {ky:IntKind}{c:Nat}(hk:k.bits=m)(hs:k.signed=false)(hx:ev n f x=.int k (a.toNat:Int))(hy:ev n f y=.int ky (c:Int))(h:O P n ops rest N Z (upd f d (.int k ((a<<<c).toNat:Int))) w):
 O P n ops (ZO d (.binOp .shl t x y t') ty pos after::rest) N Z f w:=
 O.val rfl rfl (by
  have h1:¬((c:Int)<0):=by omega
  have e:k.wrap ((a.toNat:Int)*2^(min ((c:Int).toNat) k.bits))=((a<<<c).toNat:Int):=by
   rw[wrap_u hk hs,hk]
   congr 1
   rw[BitVec.ofInt_mul,ofInt_nat];have e2:BitVec.ofInt m ((2:Int)^(min c m))=BitVec.ofNat m (2^(min c m)):=by
    rw[<-BitVec.ofInt_natCast];norm_cast
   rw[Int.toNat_natCast,e2,BitVec.toNat_mul,BitVec.toNat_ofNat,BitVec.toNat_shiftLeft,Nat.shiftLeft_eq,Nat.mul_mod_mod]
   by_cases hc:c<=m
   ·rw [Nat.min_eq_left hc]
   ·have hc':m<=c:=by omega
    rw[Nat.min_eq_right hc',Nat.mul_mod_left];obtain ⟨q,rfl⟩:=Nat.exists_eq_add_of_le hc';rw[Nat.pow_add,<-Nat.mul_assoc,Nat.mul_right_comm,Nat.mul_mod_left]
  simp only[execOp,hx,hy,eqGuard,binOp,Op.shift,if_neg h1,e]
  rfl) h
theorem O.shrU {ky:IntKind}{c:Nat}(hk:k.bits=m)(hs:k.signed=false)(hx:ev n f x=.int k (a.toNat:Int))(hy:ev n f y=.int ky (c:Int))(h:O P n ops rest N Z (upd f d (.int k ((a>>>c).toNat:Int))) w):
 O P n ops (ZO d (.binOp .shr t x y t') ty pos after::rest) N Z f w:=
 O.val rfl rfl (by
  have h1:¬((c:Int)<0):=by omega
  have e:((a.toNat:Int).fdiv (2^(min ((c:Int).toNat) k.bits)))=((a>>>c).toNat:Int):=by
   have _:=hs;rw[hk,Int.toNat_natCast,BitVec.toNat_ushiftRight,Nat.shiftRight_eq_div_pow];have e2:((2:Int)^(min c m))=((2^(min c m):Nat):Int):=by norm_cast
   rw[e2,Int.fdiv_eq_ediv_of_nonneg _ (Int.natCast_nonneg _),<-Int.natCast_ediv]
   by_cases hc:c<=m
   ·rw [Nat.min_eq_left hc]
   ·have hc':m<=c:=by omega
    have hlt:=a.isLt;rw[Nat.min_eq_right hc',Nat.div_eq_of_lt hlt,Nat.div_eq_of_lt];exact Nat.lt_of_lt_of_le hlt (Nat.pow_le_pow_right (by decide) hc')
  simp only[execOp,hx,hy,eqGuard,binOp,Op.shift,if_neg h1,e]
  rfl) h
theorem O.lssU (hx:ev n f x=.int k (a.toNat:Int))(hy:ev n f y=.int k (b.toNat:Int))(h:O P n ops rest N Z (upd f d (.bool (decide (a<b)))) w):
 O P n ops (ZO d (.binOp .lss t x y t') ty pos after::rest) N Z f w:=
 O.val rfl rfl (by simp[execOp,hx,hy,eqGuard,binOp,Op.intCmp,BitVec.lt_def]) h
theorem O.leqU (hx:ev n f x=.int k (a.toNat:Int))(hy:ev n f y=.int k (b.toNat:Int))(h:O P n ops rest N Z (upd f d (.bool (decide (a<=b)))) w):
 O P n ops (ZO d (.binOp .leq t x y t') ty pos after::rest) N Z f w:=
 O.val rfl rfl (by simp[execOp,hx,hy,eqGuard,binOp,Op.intCmp,BitVec.le_def]) h
theorem O.gtrU (hx:ev n f x=.int k (a.toNat:Int))(hy:ev n f y=.int k (b.toNat:Int))(h:O P n ops rest N Z (upd f d (.bool (decide (b<a)))) w):
 O P n ops (ZO d (.binOp .gtr t x y t') ty pos after::rest) N Z f w:=
 O.val rfl rfl (by simp[execOp,hx,hy,eqGuard,binOp,Op.intCmp,BitVec.lt_def]) h
theorem O.geqU (hx:ev n f x=.int k (a.toNat:Int))(hy:ev n f y=.int k (b.toNat:Int))(h:O P n ops rest N Z (upd f d (.bool (decide (b<=a)))) w):
 O P n ops (ZO d (.binOp .geq t x y t') ty pos after::rest) N Z f w:=
 O.val rfl rfl (by simp[execOp,hx,hy,eqGuard,binOp,Op.intCmp,BitVec.le_def]) h
theorem O.eqlU (hx:ev n f x=.int k (a.toNat:Int))(hy:ev n f y=.int k (b.toNat:Int))(h:O P n ops rest N Z (upd f d (.bool (decide (a=b)))) w):
 O P n ops (ZO d (.binOp .eql t x y t') ty pos after::rest) N Z f w:=
 O.val rfl rfl (by
  have e:((a.toNat:Int)==(b.toNat:Int))=decide (a=b):=by
   by_cases h:a=b
   ·simp [h]
   ·have h2:a.toNat≠b.toNat:=λh'=>h (BitVec.eq_of_toNat_eq h')
    simp[h];omega
  simp[execOp,hx,hy,eqGuard,binOp,Op.intCmp,e]) h
theorem O.neqU (hx:ev n f x=.int k (a.toNat:Int))(hy:ev n f y=.int k (b.toNat:Int))(h:O P n ops rest N Z (upd f d (.bool (decide (a≠b)))) w):
 O P n ops (ZO d (.binOp .neq t x y t') ty pos after::rest) N Z f w:=
 O.val rfl rfl (by
  have e:((a.toNat:Int) !=(b.toNat:Int))=decide (a≠b):=by
   by_cases h:a=b
   ·simp [h]
   ·have h2:a.toNat≠b.toNat:=λh'=>h (BitVec.eq_of_toNat_eq h')
    simp[h];omega
  simp[execOp,hx,hy,eqGuard,binOp,Op.intCmp,e]) h
end
section
variable {k k':IntKind}{m m':Nat}
theorem O.convUU {a:BitVec m}(ht:P.underlying t=some (.int k))(ht':P.underlying t'=some (.int k'))(hk':k'.bits=m')(hs':k'.signed=false)(hx:ev n f x=.int k (a.toNat:Int))
 (h:O P n ops rest N Z (upd f d (.int k' ((a.setWidth m').toNat:Int))) w):
 O P n ops (ZO d (.convert t t' x) ty pos after::rest) N Z f w:=
 O.val rfl rfl (by
  have e:k'.wrap (a.toNat:Int)=((a.setWidth m').toNat:Int):=by
   rw[wrap_u hk' hs',BitVec.ofInt_natCast]
   simp
  simp[execOp,hx,convert,run_underlying ht,run_underlying ht',Conv.intToInt,e]) h
theorem O.convU64I {a:BitVec 64}(ht:P.underlying t=some (.int .u64))(ht':P.underlying t'=some (.int .i64))(hx:ev n f x=.int .u64 (a.toNat:Int))
 (h:O P n ops rest N Z (upd f d (i64 a.toInt)) w):
 O P n ops (ZO d (.convert t t' x) ty pos after::rest) N Z f w:=
 O.val rfl rfl (by
  have e:IntKind.i64.wrap (a.toNat:Int)=a.toInt:=by
   have h1:=a.isLt;have e:IntKind.i64.wrap (a.toNat:Int)=if (true&&decide ((a.toNat:Int)%18446744073709551616≥9223372036854775808))=true then (a.toNat:Int)%18446744073709551616-18446744073709551616 else (a.toNat:Int)%18446744073709551616:=rfl;have e64':((2^64:Nat):Int)=18446744073709551616:=by decide
   rw[e,BitVec.toInt_eq_toNat_cond,e64',Int.emod_eq_of_lt (by omega) (by omega)]
   by_cases h2:2*a.toNat<2^64
   ·rw [if_pos h2,if_neg (by simp;omega)]
   ·rw [if_neg h2,if_pos (by simp;omega)]
  simp[execOp,hx,convert,run_underlying ht,run_underlying ht',Conv.intToInt,e]) h
theorem O.convIU {a:Int}(ht:P.underlying t=some (.int .i64))(ht':P.underlying t'=some (.int k'))(hk':k'.bits=m')(hs':k'.signed=false)(hx:ev n f x=i64 a)
 (h:O P n ops rest N Z (upd f d (.int k' ((BitVec.ofInt m' a).toNat:Int))) w):
 O P n ops (ZO d (.convert t t' x) ty pos after::rest) N Z f w:=
 O.val rfl rfl (by
  simp[execOp,hx,convert,run_underlying ht,run_underlying ht',Conv.intToInt,wrap_u hk' hs']) h
end
theorem run_bin {op:BinOp}{a b v:Value}(hx:ev n f x=a)(hy:ev n f y=b)(hg:(eqGuard op t x y a b).run P w=.ok () w)(h:(binOp op t a b).run P w=.ok v w)(dst:Option Tmp)(g:Option (Nat×Bool)):
 (execOp (ev n f) {dst:=dst,op:=.binOp op t x y t',type:=ty,pos:=pos,after:=after,guard:=g}).run P w=.ok (.value v) w:=by
 simp only[execOp,hx,hy,Sem.run_bind,hg,Result.andThen_ok,h]
 rfl
theorem toList_mk (l:List UInt8):(ByteArray.mk l.toArray).toList=l:=ByteArray.toList_mk l
section
variable {a b:List UInt8}
theorem O.eqlS (hx:ev n f x=str a)(hy:ev n f y=str b)(h:O P n ops rest N Z (upd f d (.bool (decide (a=b)))) w):
 O P n ops (ZO d (.binOp .eql t x y t') ty pos after::rest) N Z f w:=
 O.val rfl rfl (by
  have e:(a==b)=decide (a=b):=by by_cases h:a=b<;>simp[h]
  simp only[execOp,hx,hy,str,eqGuard,binOp,Op.stringOp,toList_mk,e]
  simp) h
theorem O.neqS (hx:ev n f x=str a)(hy:ev n f y=str b)(h:O P n ops rest N Z (upd f d (.bool (decide (a≠b)))) w):
 O P n ops (ZO d (.binOp .neq t x y t') ty pos after::rest) N Z f w:=
 O.val rfl rfl (by
  have e:(!(a==b))=decide (a≠b):=by by_cases h:a=b<;>simp[h]
  simp only[execOp,hx,hy,str,eqGuard,binOp,Op.stringOp,toList_mk,e]
  simp) h
theorem O.lssS (hx:ev n f x=str a)(hy:ev n f y=str b)(h:O P n ops rest N Z (upd f d (.bool (Op.bytesLess a b))) w):
 O P n ops (ZO d (.binOp .lss t x y t') ty pos after::rest) N Z f w:=
 O.val rfl rfl (by simp only[execOp,hx,hy,str,eqGuard,binOp,Op.stringOp,toList_mk];simp) h
theorem O.gtrS (hx:ev n f x=str a)(hy:ev n f y=str b)(h:O P n ops rest N Z (upd f d (.bool (!(Op.bytesLess a b||a==b)))) w):
 O P n ops (ZO d (.binOp .gtr t x y t') ty pos after::rest) N Z f w:=
 O.val rfl rfl (by simp only[execOp,hx,hy,str,eqGuard,binOp,Op.stringOp,toList_mk];simp) h
theorem O.leqS (hx:ev n f x=str a)(hy:ev n f y=str b)(h:O P n ops rest N Z (upd f d (.bool (Op.bytesLess a b||a==b))) w):
 O P n ops (ZO d (.binOp .leq t x y t') ty pos after::rest) N Z f w:=
 O.val rfl rfl (by simp only[execOp,hx,hy,str,eqGuard,binOp,Op.stringOp,toList_mk];simp) h
theorem O.geqS (hx:ev n f x=str a)(hy:ev n f y=str b)(h:O P n ops rest N Z (upd f d (.bool (!Op.bytesLess a b))) w):
 O P n ops (ZO d (.binOp .geq t x y t') ty pos after::rest) N Z f w:=
 O.val rfl rfl (by simp only[execOp,hx,hy,str,eqGuard,binOp,Op.stringOp,toList_mk];simp) h
theorem O.addS (hx:ev n f x=str a)(hy:ev n f y=str b)(hb:a.length+b.length<=9223372036854775807)(h:O P n ops rest N Z (upd f d (str (a++b))) w):
 O P n ops (ZO d (.binOp .add t x y t') ty pos after::rest) N Z f w:=
 O.val rfl rfl (by
  have h1:¬(IntKind.i64.max<((ByteArray.size ⟨a.toArray⟩+ByteArray.size ⟨b.toArray⟩:Nat):Int)):=by
   have e:IntKind.i64.max=9223372036854775807:=by decide
   have ha:ByteArray.size ⟨a.toArray⟩=a.length:=by simp[ByteArray.size]
   have hb':ByteArray.size ⟨b.toArray⟩=b.length:=by simp[ByteArray.size]
   rw[e,ha,hb'];omega
  have e2:(ByteArray.mk a.toArray++ByteArray.mk b.toArray)=ByteArray.mk (a++b).toArray:=by
   apply ByteArray.ext
   simp
  simp only[execOp,hx,hy,str,eqGuard,binOp,Op.stringOp,gt_iff_lt,h1,if_false,e2]
  simp) h
theorem O.lenS (ht:P.underlying t=some .string)(hx:ev n f x=str a)(h:O P n ops rest N Z (upd f d (i64 a.length)) w):
 O P n ops (ZO d (.call {callee:=.builtin .len,args:=[x].toArray,argTypes:=[t].toArray}) ty pos after::rest) N Z f w:=
 O.val rfl rfl (by
  have e:ByteArray.size ⟨a.toArray⟩=a.length:=by simp[ByteArray.size]
  simp[execOp,resolve,invoke,builtin,hx,Builtin.len_,run_underlying ht,str,goInt,e]) h
theorem O.lenL {l:Option Addr}{k c:Nat}{e:TypeId}(ht:P.underlying t=some (.slice e))(hx:ev n f x=.slice l k c)(h:O P n ops rest N Z (upd f d (i64 k)) w):
 O P n ops (ZO d (.call {callee:=.builtin .len,args:=[x].toArray,argTypes:=[t].toArray}) ty pos after::rest) N Z f w:=
 O.val rfl rfl (by
  simp[execOp,resolve,invoke,builtin,hx,Builtin.len_,run_underlying ht,goInt]) h
theorem O.indexS {k:IntKind}{i:Int}(ht:P.underlying t=some .string)(hx:ev n f x=str a)(hy:ev n f y=.int k i)(hi:0<=i∧i<a.length)(h:O P n ops rest N Z (upd f d (.int .u8 ((a.getD i.toNat 0).toNat:Int))) w):
 O P n ops (ZO d (.index t x y) ty pos after::rest) N Z f w:=
 O.val rfl rfl (by
  have hlt:i.toNat<a.length:=by omega
  have h1:(ByteArray.mk a.toArray)[i.toNat]? =some (a.getD i.toNat 0):=by
   rw[getElem?_pos (ByteArray.mk a.toArray) i.toNat (show i.toNat<(ByteArray.mk a.toArray).size by simpa[ByteArray.size] using hlt)];rw[List.getD_eq_getElem?_getD,List.getElem?_eq_getElem hlt]
   rfl
  have h2:(Instr.index t (.string ⟨a.toArray⟩) (.int k i)).run P w=.ok (.int .u8 ((a.getD i.toNat 0).toNat:Int)) w:=by
   unfold Instr.index;rw[Sem.run_bind];show Result.andThen (Result.ok (k,i) w) _=_;rw[Result.andThen_ok,Sem.run_bind,run_underlying ht,Result.andThen_ok];simp only[if_pos hi.1,h1]
   rfl
  have h3:execOp (ev n f) (ZO d (.index t x y) ty pos after)=(do pure (.value (<-Instr.index t (ev n f x) (ev n f y)))):=rfl;rw[h3,Sem.run_bind,hx,hy];show Result.andThen ((Instr.index t (.string ⟨a.toArray⟩) (.int k i)).run P w) _=_;rw[h2]
  rfl) h
theorem extract_mk (a:List UInt8)(l h:Nat):(ByteArray.mk a.toArray).extract l h=ByteArray.mk ((a.take h).drop l).toArray:=by
 apply ByteArray.ext
 simp[ByteArray.data_extract,List.drop_take]
end
end
end Go.Pn
end
section
namespace Go.Pn
open Go.RowKit
structure Ext (M:Nat->Prop) (w w':World):Prop where
 os:w'.os=w.os
 tape:w'.tape=w.tape
 output:w'.output=w.output
 size:w.heap.size<=w'.heap.size
 block:∀k,k<w.heap.size->¬M k->w'.heap[k]? =w.heap[k]?
abbrev Le (w w':World):Prop:=Ext (λ_=>False) w w'
theorem Ext.refl (M:Nat->Prop)(w:World):Ext M w w:=⟨rfl,rfl,rfl,Nat.le_refl _,λ_ _ _=>rfl⟩
theorem Ext.L:type_of%@Ext.refl:=@Ext.refl
theorem Le.refl (w:World):Le w w:=Ext.L _ w
theorem leR {w:World}:Le w w:=Le.refl w
theorem Ext.trans {M:Nat->Prop}{a b c:World}(h:Ext M a b)(k:Ext M b c):Ext M a c:=
 ⟨k.os.trans h.os,k.tape.trans h.tape,k.output.trans h.output,Nat.le_trans h.size k.size,λi hi hm=>(k.block i (Nat.lt_of_lt_of_le hi h.size) hm).trans (h.block i hi hm)⟩
theorem Ext.T:type_of%@Ext.trans:=@Ext.trans
theorem Ext.mono {M M':Nat->Prop}{a b:World}(h:Ext M a b)(hm:∀k,k<a.heap.size->M k->M' k):Ext M' a b:=
 ⟨h.os,h.tape,h.output,h.size,λi hi hn=>h.block i hi λhk=>hn (hm i hi hk)⟩
theorem Le.to {M:Nat->Prop}{a b:World}(h:Le a b):Ext M a b:=h.mono λ_ _ h=>h.elim
theorem Ext.new {M M':Nat->Prop}{a b c:World}(h:Ext M a b)(k:Ext M' b c)(hm:∀i,i<a.heap.size->M' i->M i):Ext M a c:=
 ⟨k.os.trans h.os,k.tape.trans h.tape,k.output.trans h.output,Nat.le_trans h.size k.size,λi hi hn=>(k.block i (Nat.lt_of_lt_of_le hi h.size) λhk=>hn (hm i hi hk)).trans (h.block i hi hn)⟩
theorem Ext.nt {M':Nat->Prop}{a b c:World}(h:Ext (λ_=>True) a b)(k:Ext M' b c):Ext (λ_=>True) a c:=Ext.new h k λ_ _ _=>trivial
theorem Ext.nw {M M':Nat->Prop}{a b c:World}(h:Ext M a b)(k:Ext M' b c)(hm:∀i,i<a.heap.size->M' i->M i:=by intro i hi hk;first|exact hk.elim|((try dsimp only at hk);(try dsimp only);omega)):Ext M a c:=Ext.new h k hm
theorem Ext.nS {M' S:Nat->Prop}{b0:Nat}{a b c:World}(h:Ext (λj=>j=b0∨S j) a b)(k:Ext M' b c)(hm:∀i,i<a.heap.size->M' i->i=b0∨S i:=by intro i hi hk;first|exact hk.elim|exact .inl hk|exact .inr hk|exact hk):Ext (λj=>j=b0∨S j) a c:=Ext.new h k hm
theorem Ext.nT {M M':Nat->Prop}{a b c:World}(h:Ext M a b)(k:Ext M' b c)(hm:∀i,i<a.heap.size->M' i->M i:=by intro i hi hk;first|exact hk.elim|exact hk):Ext M a c:=Ext.new h k hm
theorem Ext.nr {M M':Nat->Prop}{a b c:World}(h:Ext M a b)(k:Ext M' b c)(hm:∀i,i<a.heap.size->M' i->M i:=by rintro i hi rfl;omega):Ext M a c:=Ext.new h k hm
theorem Le.trans {a b c:World}(h:Le a b)(k:Le b c):Le a c:=Ext.T h k
theorem Le.drew (w:World):Le w w.drew:=⟨rfl,rfl,rfl,Nat.le_refl _,λ_ _ _=>rfl⟩
theorem Le.alloc (w:World)(o:Obj):Le w (w.alloc o):=⟨rfl,rfl,rfl,by simp,λk hk _=>Below.heap_alloc _ _ _ hk⟩
theorem Ext.set (w:World)(a:Addr)(v:Value):Ext (λk=>k=a.block) w (w.setCell a v):=
 ⟨rfl,rfl,rfl,by simp,λk _ hn=>Below.heap_setCell _ _ _ _ hn⟩
theorem Ext.lt {M:Nat->Prop}{a b:World}(h:Ext M a b){k:Nat}(hk:k<a.heap.size):k<b.heap.size:=Nat.lt_of_lt_of_le hk h.size
def CellIs (w:World)(b:Nat)(v:Value):Prop:=w.cell? ⟨b,0,none⟩=some v
theorem CellIs.lt {w:World}{b:Nat}{v:Value}(h:CellIs w b v):b<w.heap.size:=World.block_lt_of_cell? w _ h
theorem CellIs.kM {M:Nat->Prop}{w w':World}{b:Nat}{v:Value}(h:CellIs w b v)(e:Ext M w w')(hM:¬M b):CellIs w' b v:=by
 have:=e.block b h.lt hM;unfold CellIs at h ⊢;rw[<-h];simp only[World.cell?,this]
theorem CellIs.kO {M:Nat->Prop}{w w':World}{b:Nat}{v:Value}(h:CellIs w b v)(e:Ext M w w')(hM:¬M b:=by intro h;(try dsimp only at h);omega):CellIs w' b v:=CellIs.kM h e hM
theorem CellIs.L {w w':World}{b:Nat}{v:Value}(h:CellIs w b v)(e:Le w w'):CellIs w' b v:=h.kM e not_false
structure Enc (α:Type) where
 sz:Nat
 rep:World->(Nat->Prop)->List Value->α->Prop
 len:∀{w F cs x},rep w F cs x->cs.length=sz
 one:∀{w F cs x},rep w F cs x->∀c∈cs,c.oneCell'=true
 ext:∀{w w' F cs x},rep w F cs x->(∀k,F k->k<w.heap.size->w'.heap[k]? =w.heap[k]?)->rep w' F cs x
 weak:∀{w F F' cs x},rep w F cs x->(∀k,F k->F' k)->rep w F' cs x
def Enc.flat {α:Type}(sz:Nat)(e:α->List Value)(hl:∀x,(e x).length=sz)(ho:∀x,∀c∈e x,c.oneCell'=true):Enc α where
 sz:=sz
 rep:=λ_ _ cs x=>cs=e x
 len:=by rintro w F cs x rfl;exact hl x
 one:=by rintro w F cs x rfl;exact ho x
 ext:=λh _=>h
 weak:=λh _=>h
def At {α:Type}(E:Enc α)(w:World)(F:Nat->Prop)(a:Addr)(x:α):Prop:=
 ∃b off cur ty fr,a=⟨b,off,none⟩∧F b∧w.heap[b]? =some (.cells cur ty fr)∧off+E.sz<=cur.size∧E.rep w F ((cur.toList.drop off).take E.sz) x
def Sl {α:Type}(E:Enc α)(w:World)(F:Nat->Prop)(v:Value)(xs:List α):Prop:=
 xs.length<=maxLen∧
 ((∃a,v=.slice a 0 0∧xs=[])∨
  ∃b off cap cur ty fr,v=.slice (some ⟨b,off,none⟩) xs.length cap∧F b∧w.heap[b]? =some (.cells cur ty fr)∧xs.length<=cap∧cap<=maxLen∧(0<xs.length->off+cap*E.sz<=cur.size)∧
   ∀i (h:i<xs.length),E.rep w F ((cur.toList.drop (off+i*E.sz)).take E.sz) xs[i])
section
variable {α:Type}{E:Enc α}{w w':World}{F F':Nat->Prop}{v:Value}{xs:List α}{a:Addr}{x:α}
theorem lt_of_some {w:World}{b:Nat}{o:Obj}(h:w.heap[b]? =some o):b<w.heap.size:=(Array.getElem?_eq_some_iff.1 h).1
theorem At.ext (h:At E w F a x)(hw:∀k,F k->k<w.heap.size->w'.heap[k]? =w.heap[k]?):At E w' F a x:=by
 obtain ⟨b,off,cur,ty,fr,rfl,hF,hb,hs,hr⟩:=h;exact ⟨b,off,cur,ty,fr,rfl,hF,(hw b hF (lt_of_some hb)).trans hb,hs,E.ext hr hw⟩
theorem At.L (h:At E w F a x)(e:Le w w'):At E w' F a x:=h.ext λk _ hk=>e.block k hk not_false
theorem At.kM {M:Nat->Prop}(h:At E w F a x)(e:Ext M w w')(hM:∀k,F k->¬M k):At E w' F a x:=h.ext λk hF hk=>e.block k hk (hM k hF)
theorem At.keepA {M:Nat->Prop}(h:At E w F a x)(e:Ext M w w')(hM:∀k,F k->¬M k:=by intro k hk h;first|(have q:=hF k hk;(try dsimp only at h);omega)|(have q:=hF2 k hk;(try dsimp only at h);omega)|(have q:=hFb k hk;(try dsimp only at h);omega)|((try dsimp only at hk);(try dsimp only at h);omega)):At E w' F a x:=At.kM h e hM
theorem At.weak (h:At E w F a x)(hF':∀k,F k->F' k):At E w F' a x:=by
 obtain ⟨b,off,cur,ty,fr,rfl,hF,hb,hs,hr⟩:=h;exact ⟨b,off,cur,ty,fr,rfl,hF' _ hF,hb,hs,E.weak hr hF'⟩
theorem At.weakA (h:At E w F a x)(hF':∀k,F k->F' k:=by intro q hq;(try dsimp only at hq);(try dsimp only);omega):At E w F' a x:=At.weak h hF'
theorem Sl.ext (h:Sl E w F v xs)(hw:∀k,F k->k<w.heap.size->w'.heap[k]? =w.heap[k]?):Sl E w' F v xs:=by
 refine ⟨h.1,?_⟩;rcases h.2 with h|⟨b,off,cap,cur,ty,fr,rfl,hF,hb,h1,h2,h3,hr⟩
 ·exact .inl h
 ·exact .inr ⟨b,off,cap,cur,ty,fr,rfl,hF,(hw b hF (lt_of_some hb)).trans hb,h1,h2,h3,λi hi=>E.ext (hr i hi) hw⟩
theorem Sl.weak (h:Sl E w F v xs)(hF':∀k,F k->F' k):Sl E w F' v xs:=by
 refine ⟨h.1,?_⟩;rcases h.2 with h|⟨b,off,cap,cur,ty,fr,rfl,hF,hb,h1,h2,h3,hr⟩
 ·exact .inl h
 ·exact .inr ⟨b,off,cap,cur,ty,fr,rfl,hF' _ hF,hb,h1,h2,h3,λi hi=>E.weak (hr i hi) hF'⟩
theorem Sl.weakA (h:Sl E w F v xs)(hF':∀k,F k->F' k:=by intro q hq;(try dsimp only at hq);(try dsimp only);omega):Sl E w F' v xs:=Sl.weak h hF'
theorem Sl.L (h:Sl E w F v xs)(e:Le w w'):Sl E w' F v xs:=h.ext λk _ hk=>e.block k hk not_false
theorem Sl.kM {M:Nat->Prop}(h:Sl E w F v xs)(e:Ext M w w')(hM:∀k,F k->¬M k):Sl E w' F v xs:=h.ext λk hF hk=>e.block k hk (hM k hF)
theorem Sl.keepA {M:Nat->Prop}(h:Sl E w F v xs)(e:Ext M w w')(hM:∀k,F k->¬M k:=by intro k hk h;first|(have q:=hF k hk;(try dsimp only at h);omega)|(have q:=hF2 k hk;(try dsimp only at h);omega)|(have q:=hFb k hk;(try dsimp only at h);omega)|((try dsimp only at hk);(try dsimp only at h);omega)):Sl E w' F v xs:=Sl.kM h e hM
theorem Sl.le (h:Sl E w F v xs):xs.length<=9223372036854775807:=by have:=h.1;unfold maxLen at this;omega
theorem Sl.nil (E:Enc α)(w:World)(F:Nat->Prop):Sl E w F (.slice none 0 0) []:=⟨by simp,.inl ⟨_,rfl,rfl⟩⟩
theorem Sl.val (h:Sl E w F v xs):∃l cap,v=.slice l xs.length cap∧xs.length<=cap:=by
 rcases h.2 with ⟨a0,rfl,rfl⟩|⟨b,off,cap,cur,ty,fr,rfl,_,_,h1,_⟩
 ·exact ⟨_,_,rfl,Nat.le_refl _⟩
 ·exact ⟨_,_,rfl,h1⟩
theorem Addr.add_none (b off k:Nat):(⟨b,off,none⟩:Addr).add k=⟨b,off+k,none⟩:=by
 unfold Addr.add;split<;>simp_all
theorem Sl.elem (h:Sl E w F v xs){i:Nat}(hi:i<xs.length):∃b off cap,v=.slice (some ⟨b,off,none⟩) xs.length cap∧At E w F ⟨b,off+i*E.sz,none⟩ xs[i]:=by
 rcases h.2 with ⟨a0,rfl,rfl⟩|⟨b,off,cap,cur,ty,fr,rfl,hF,hb,h1,_,h3,hr⟩
 ·simp at hi
 ·refine ⟨b,off,cap,rfl,b,off+i*E.sz,cur,ty,fr,rfl,hF,hb,?_,hr i hi⟩
  have:(i+1)*E.sz<=cap*E.sz:=Nat.mul_le_mul_right _ (by omega);rw[Nat.add_mul,Nat.one_mul] at this;have h3:=h3 (by omega)
  omega
theorem At.cell1 (h:At E w F a x)(h1:E.sz=1):∃v,w.cell? a=some v∧E.rep w F [v] x:=by
 obtain ⟨b,off,cur,ty,fr,rfl,hF,hb,hs,hr⟩:=h;rw[h1] at hs hr;have hlt:off<cur.size:=by omega
 refine ⟨cur[off],?_,?_⟩
 ·simp [World.cell?,hb,hlt]
 ·have:(cur.toList.drop off).take 1=[cur[off]]:=by
   rw[List.drop_eq_getElem_cons (by simpa using hlt)]
   simp
  rwa [this] at hr
end
section
variable
 {d:Nat}{x y:Operand}{t t' ty:TypeId}{pos:String}{after:Array Edge}{α:Type}{E:Enc α}{F:Nat->Prop}
theorem run_sizeOf {e:TypeId}{i:TypeInfo}(hi:P.info? e=some i):(sizeOf e).run P w=.ok i.size w:=by
 simp[sizeOf,typeInfo,hi]
theorem O.idx {e:TypeId}{i:Int}{s:Nat}{v:Value}{xs:List α}(ht:P.underlying t=some (.slice e))(hsz:∀w,(sizeOf e).run P w=.ok s w)(hs:E.sz=s)(hx:ev n f x=v)(hv:Sl E w F v xs)
 (hy:ev n f y=i64 i)(hi:0<=i∧i<xs.length)(h:∀a,At E w F a (xs[i.toNat]'(by omega))->O P n ops rest N Z (upd f d (.pointer (some a))) w):
 O P n ops (ZO d (.indexAddr t x y) ty pos after::rest) N Z f w:=by
 obtain ⟨b,off,cap,hval,hat⟩:=hv.elem (i:=i.toNat) (by omega);refine O.val rfl rfl ?_ (h _ hat);have h3:execOp (ev n f) (ZO d (.indexAddr t x y) ty pos after)=(do pure (.value (<-Instr.indexAt t (ev n f x) (ev n f y)))):=rfl;rw[h3,Sem.run_bind,hx,hy,hval];have h4:(Instr.indexAt t (.slice (some ⟨b,off,none⟩) xs.length cap) (i64 i)).run P w=.ok (.pointer (some ⟨b,off+i.toNat*E.sz,none⟩)) w:=by
  simp[Instr.indexAt,asIntOf,run_underlying ht,hi.1,hi.2,hsz,Addr.add_none,hs]
 rw[h4]
 rfl
theorem O.load1 {a:Addr}{z:α}(hag:∀w,(isAgg t).run P w=.ok false w)(h1:E.sz=1)(hx:ev n f x=.pointer (some a))(ha:At E w F a z)
 (h:∀v,E.rep w F [v] z->O P n ops rest N Z (upd f d v) w):
 O P n ops (ZO d (.load t x) ty pos after::rest) N Z f w:=by
 obtain ⟨v,hc,hr⟩:=ha.cell1 h1;refine O.val rfl rfl ?_ (h v hr);have h3:execOp (ev n f) (ZO d (.load t x) ty pos after)=(do pure (.value (<-Instr.loadAt t (ev n f x)))):=rfl;rw[h3,Sem.run_bind,hx];have h4:(Instr.loadAt t (.pointer (some a))).run P w=.ok v w:=by
  simp[Instr.loadAt,Instr.sureAddr,loadVar,hag,hc]
 rw[h4]
 rfl
theorem O.len {e:TypeId}{v:Value}{xs:List α}(ht:P.underlying t=some (.slice e))(hx:ev n f x=v)(hv:Sl E w F v xs)(h:O P n ops rest N Z (upd f d (i64 xs.length)) w):
 O P n ops (ZO d (.call {callee:=.builtin .len,args:=[x].toArray,argTypes:=[t].toArray}) ty pos after::rest) N Z f w:=by
 obtain ⟨l,cap,hval,_⟩:=hv.val;exact O.lenL ht (hx.trans hval) h
end
def byteE:Enc UInt8:=Enc.flat 1 (λx=>[.int .u8 (x.toNat:Int)]) (λ_=>rfl) (by simp[Value.oneCell'])
theorem byteE.inv {w:World}{F:Nat->Prop}{v:Value}{x:UInt8}(h:byteE.rep w F [v] x):v=.int .u8 (x.toNat:Int):=by
 have:[v]=[Value.int .u8 (x.toNat:Int)]:=h
 simpa using this
section
variable
 {d:Nat}{x y:Operand}{t t' ty:TypeId}{pos:String}{after:Array Edge}{F:Nat->Prop}
theorem O.loadB {a:Addr}{z:UInt8}(hag:∀w,(isAgg t).run P w=.ok false w)(hx:ev n f x=.pointer (some a))(ha:At byteE w F a z)
 (h:O P n ops rest N Z (upd f d (.int .u8 (z.toBitVec.toNat:Int))) w):
 O P n ops (ZO d (.load t x) ty pos after::rest) N Z f w:=
 O.load1 hag rfl hx ha λv hv=>by rw[byteE.inv hv];exact h
end
end Go.Pn
end
section
namespace Go.Pn
open Go.RowKit
def Own0 (w:World)(b:Nat)(ty:TypeId)(cs:List Value):Prop:=w.heap[b]? =some (.cells cs.toArray ty (0,0))
def Own (w:World)(b:Nat)(ty:TypeId)(cs:List Value):Prop:=∃fr:Nat×Nat,w.heap[b]? =some (.cells cs.toArray ty fr)∧(fr=(0,0)∨fr=(cs.length,cs.length+1))
section
variable {w w':World}{b:Nat}{ty:TypeId}{cs:List Value}
theorem Own0.own (h:Own0 w b ty cs):Own w b ty cs:=⟨_,h,.inl rfl⟩
theorem Own0.lt (h:Own0 w b ty cs):b<w.heap.size:=lt_of_some h
theorem Own0.kM {M:Nat->Prop}(h:Own0 w b ty cs)(e:Ext M w w')(hM:¬M b):Own0 w' b ty cs:=(e.block b (lt_of_some h) hM).trans h
theorem Own0.L (h:Own0 w b ty cs)(e:Le w w'):Own0 w' b ty cs:=h.kM e not_false
theorem Own.lt (h:Own w b ty cs):b<w.heap.size:=by obtain ⟨fr,h,_⟩:=h;exact lt_of_some h
theorem Own.kM {M:Nat->Prop}(h:Own w b ty cs)(e:Ext M w w')(hM:¬M b):Own w' b ty cs:=by
 obtain ⟨fr,h,h2⟩:=h;exact ⟨fr,(e.block b (lt_of_some h) hM).trans h,h2⟩
theorem Own.kO {M:Nat->Prop}(h:Own w b ty cs)(e:Ext M w w')(hM:¬M b:=by intro h;(try dsimp only at h);omega):Own w' b ty cs:=h.kM e hM
theorem Own.L (h:Own w b ty cs)(e:Le w w'):Own w' b ty cs:=h.kM e not_false
theorem Own.cell (h:Own w b ty cs){i:Nat}{v:Value}(hi:cs[i]? =some v):w.cell? ⟨b,i,none⟩=some v:=by
 obtain ⟨fr,h,_⟩:=h;unfold World.cell?;rw[h]
 simpa using hi
theorem Own.free (h:Own w b ty cs){i:Nat}(hi:i<cs.length):w.frozen? ⟨b,i,none⟩=false:=by
 obtain ⟨fr,h,h2⟩:=h;unfold World.frozen?;rw[h];rcases h2 with rfl|rfl
 ·simp
 ·simp;omega
theorem heap_set (w:World)(b i:Nat)(v:Value){cs:List Value}{ty:TypeId}{fr:Nat×Nat}(h:w.heap[b]? =some (.cells cs.toArray ty fr)):(w.setCell ⟨b,i,none⟩ v).heap[b]? =some (.cells (cs.set i v).toArray ty fr):=by
 unfold World.setCell;rw[Array.getElem?_modify,if_pos rfl,h]
 simp
theorem Own.set (h:Own w b ty cs)(i:Nat)(v:Value):Own (w.setCell ⟨b,i,none⟩ v) b ty (cs.set i v):=by
 obtain ⟨fr,h,h2⟩:=h;exact ⟨fr,heap_set w b i v h,by simpa using h2⟩
theorem Own0.set (h:Own0 w b ty cs)(i:Nat)(v:Value):Own0 (w.setCell ⟨b,i,none⟩ v) b ty (cs.set i v):=heap_set w b i v h
theorem Own0.new (w:World)(ty:TypeId)(cs:List Value):Own0 (w.alloc (.cells cs.toArray ty)) w.heap.size ty cs:=by
 unfold Own0 World.alloc
 simp
end
structure Flat (α:Type) where
 sz:Nat
 e:α->List Value
 len:∀x,(e x).length=sz
 one:∀x,∀c∈e x,c.oneCell'=true
 pos:0<sz
def Flat.enc {α:Type}(E:Flat α):Enc α:=Enc.flat E.sz E.e E.len E.one
theorem Flat.length {α:Type}(E:Flat α)(xs:List α):(xs.flatMap E.e).length=xs.length*E.sz:=by
 induction xs with
 |nil=>simp
 |cons x xs ih=>simp[ih,E.len,Nat.add_mul,Nat.add_comm]
theorem Flat.seg {α:Type}(E:Flat α)(xs:List α){i:Nat}(hi:i<xs.length):((xs.flatMap E.e).drop (i*E.sz)).take E.sz=E.e xs[i]:=by
 induction xs generalizing i with
 |nil=>simp at hi
 |cons x xs ih=>
  cases i with
  |zero=>
   simp only[Nat.zero_mul,List.drop_zero,List.flatMap_cons,List.getElem_cons_zero];rw[List.take_left' (E.len x)]
  |succ i=>
   have e1:(i+1)*E.sz=(E.e x).length+i*E.sz:=by rw[E.len,Nat.add_mul];omega
   rw[List.flatMap_cons,e1,List.drop_append,List.drop_eq_nil_of_le (by omega)];simp only[List.nil_append,Nat.add_sub_cancel_left,List.getElem_cons_succ];exact ih (by simpa using hi)
theorem Flat.ones {α:Type}(E:Flat α)(xs:List α):∀c∈xs.flatMap E.e,c.oneCell'=true:=by
 intro c hc;obtain ⟨x,_,hx⟩:=List.mem_flatMap.1 hc;exact E.one x c hx
theorem Flat.get {α:Type}(E:Flat α)(xs:List α){j:Nat}{u:Value}(h:(xs.flatMap E.e)[j]? =some u):∃(hi:j/E.sz<xs.length),(E.e (xs[j/E.sz]))[j%E.sz]? =some u:=by
 have hj:j<(xs.flatMap E.e).length:=by
  rcases Nat.lt_or_ge j (xs.flatMap E.e).length with h'|h'
  ·exact h'
  ·rw [List.getElem?_eq_none h'] at h;cases h
 rw[E.length] at hj;have hi:j/E.sz<xs.length:=Nat.div_lt_of_lt_mul (by rw[Nat.mul_comm];exact hj);refine ⟨hi,?_⟩;rw[<-E.seg xs hi,List.getElem?_take,if_pos (Nat.mod_lt _ E.pos),List.getElem?_drop,Nat.mul_comm,Nat.div_add_mod];exact h
def Row {α:Type}(E:Enc α)(w:World)(F:Nat->Prop)(b off:Nat)(xs:List α):Prop:=
 ∃cur ty fr,F b∧w.heap[b]? =some (.cells cur ty fr)∧off+xs.length*E.sz<=cur.size∧∀i (h:i<xs.length),E.rep w F ((cur.toList.drop (off+i*E.sz)).take E.sz) xs[i]
section
variable {α:Type}{E:Enc α}{G:Flat α}{w w':World}{F F':Nat->Prop}{v:Value}{xs:List α}{b off:Nat}{ty:TypeId}{cs:List Value}
theorem Row.L (h:Row E w F b off xs)(e:Le w w'):Row E w' F b off xs:=by
 obtain ⟨cur,ty,fr,hF,hb,hs,hr⟩:=h;exact ⟨cur,ty,fr,hF,(e.block b (lt_of_some hb) not_false).trans hb,hs,λi hi=>E.ext (hr i hi) λk _ hk=>e.block k hk not_false⟩
theorem Row.kM {M:Nat->Prop}(h:Row E w F b off xs)(e:Ext M w w')(hM:∀k,F k->¬M k):Row E w' F b off xs:=by
 obtain ⟨cur,ty,fr,hF,hb,hs,hr⟩:=h;exact ⟨cur,ty,fr,hF,(e.block b (lt_of_some hb) (hM b hF)).trans hb,hs,λi hi=>E.ext (hr i hi) λk hF hk=>e.block k hk (hM k hF)⟩
theorem Row.keepA {M:Nat->Prop}(h:Row E w F b off xs)(e:Ext M w w')(hM:∀k,F k->¬M k:=by intro k hk h;first|(have q:=hF k hk;(try dsimp only at h);omega)|(have q:=hF2 k hk;(try dsimp only at h);omega)|(have q:=hFb k hk;(try dsimp only at h);omega)|((try dsimp only at hk);(try dsimp only at h);omega)):Row E w' F b off xs:=Row.kM h e hM
theorem Row.at (h:Row E w F b off xs){i:Nat}(hi:i<xs.length):At E w F ⟨b,off+i*E.sz,none⟩ xs[i]:=by
 obtain ⟨cur,ty,fr,hF,hb,hs,hr⟩:=h;refine ⟨b,off+i*E.sz,cur,ty,fr,rfl,hF,hb,?_,hr i hi⟩;have:(i+1)*E.sz<=xs.length*E.sz:=Nat.mul_le_mul_right _ (by omega);rw[Nat.add_mul,Nat.one_mul] at this
 omega
theorem Sl.of_own {cap:Nat}(h:Own w b ty cs)(hcs:cs.take (xs.length*G.sz)=xs.flatMap G.e)(h1:xs.length<=cap)(h2:cap<=maxLen)(h3:cap*G.sz<=cs.length):
 Sl G.enc w (λk=>k=b) (.slice (some ⟨b,0,none⟩) xs.length cap) xs:=by
 obtain ⟨fr,hb,_⟩:=h;refine ⟨by omega,.inr ⟨b,0,cap,_,ty,fr,rfl,rfl,hb,h1,h2,?_,λi hi=>?_⟩⟩
 ·intro _
  show 0+cap*G.sz<=_
  simpa using h3
 ·show (_:List Value)=G.e xs[i]
  rw[<-G.seg xs hi,<-hcs];show ((cs.drop (0+i*G.sz)).take G.sz)=((cs.take (xs.length*G.sz)).drop (i*G.sz)).take G.sz;rw[Nat.zero_add,List.drop_take,List.take_take,Nat.min_eq_left];have:(i+1)*G.sz<=xs.length*G.sz:=Nat.mul_le_mul_right _ (by omega);rw[Nat.add_mul,Nat.one_mul] at this
  omega
theorem Sl.flat (h:Sl G.enc w F v xs):(∃a,v=.slice a 0 0∧xs=[])∨∃b off cap,F b∧v=.slice (some ⟨b,off,none⟩) xs.length cap∧xs.length<=cap∧b<w.heap.size∧∀j u,(xs.flatMap G.e)[j]? =some u->w.cell? ⟨b,off+j,none⟩=some u:=by
 rcases h.2 with h|⟨b,off,cap,cur,ty,fr,rfl,hF,hb,h1,h2,h3,hr⟩
 ·exact .inl h
 ·refine .inr ⟨b,off,cap,hF,rfl,h1,lt_of_some hb,λj u hu=>?_⟩
  obtain ⟨hi,hu⟩:=G.get xs hu;have hseg:(cur.toList.drop (off+(j/G.sz)*G.sz)).take G.sz=G.e (xs[j/G.sz]):=hr _ hi;rw[<-hseg,List.getElem?_take,if_pos (Nat.mod_lt _ G.pos),List.getElem?_drop,Nat.add_assoc,Nat.mul_comm,Nat.div_add_mod] at hu;simp only[World.cell?,hb,Option.isSome_none,Bool.false_eq_true,if_false]
  simpa using hu
end
def OwnF {α:Type}(G:Flat α)(ty:TypeId)(B:Nat)(w:World)(v:Value)(xs:List α):Prop:=w.ownsRow B ty G.sz v xs.length (xs.flatMap G.e)∧xs.length<=maxLen
def bk:Value->Nat->Prop
 |.slice (some a) _ _,k=>k=a.block
 |_,_=>False
section
variable {α:Type}{G:Flat α}{w w':World}{F:Nat->Prop}{v:Value}{xs ys:List α}{b B:Nat}{ty:TypeId}{cs:List Value}
theorem OwnF.nil (G:Flat α)(ty:TypeId)(B:Nat)(w:World):OwnF G ty B w (.slice none 0 0) []:=⟨World.ownsRow_nil _ _ _ _,by simp⟩
theorem OwnF.bk_ge (h:OwnF G ty B w v xs):∀k,bk v k->B<=k∧k<w.heap.size:=by
 intro k hk;cases v with
 |slice a n c=>
  cases a with
  |none=>exact hk.elim
  |some a=>simp only[bk] at hk;subst hk;exact h.1.lt _ rfl
 |_=>exact hk.elim
theorem OwnF.sl (h:OwnF G ty B w v xs):Sl G.enc w (bk v) v xs:=by
 refine ⟨h.2,?_⟩;rcases h.1.2 with ⟨rfl,h0⟩|⟨g,cap,cur,rfl,hb,hg,hn,hm,hs,ht⟩
 ·exact .inl ⟨_,rfl,List.eq_nil_of_length_eq_zero h0⟩
 ·refine .inr ⟨g,0,cap,cur,ty,(0,0),rfl,rfl,hg,hn,hm,?_,λi hi=>?_⟩
  ·intro _
   show 0+cap*G.sz<=_
   omega
  ·show (_:List Value)=G.e xs[i]
   rw[<-G.seg xs hi,<-ht];show ((cur.toList.drop (0+i*G.sz)).take G.sz)=((cur.toList.take (xs.length*G.sz)).drop (i*G.sz)).take G.sz;rw[Nat.zero_add,List.drop_take,List.take_take,Nat.min_eq_left];have:(i+1)*G.sz<=xs.length*G.sz:=Nat.mul_le_mul_right _ (by omega);rw[Nat.add_mul,Nat.one_mul] at this
   omega
theorem OwnF.kM {M:Nat->Prop}(h:OwnF G ty B w v xs)(e:Ext M w w')(hM:∀k,bk v k->¬M k):OwnF G ty B w' v xs:=by
 refine ⟨⟨h.1.1,?_⟩,h.2⟩;rcases h.1.2 with hn|⟨g,cap,cur,rfl,hb,hg,rest⟩
 ·exact .inl hn
 ·exact .inr ⟨g,cap,cur,rfl,hb,(e.block g (lt_of_some hg) (hM g rfl)).trans hg,rest⟩
theorem OwnF.keepA {M:Nat->Prop}(h:OwnF G ty B w v xs)(e:Ext M w w')(hM:∀k,bk v k->¬M k:=by intro k hk h;first|(have q:=hF k hk;(try dsimp only at h);omega)|(have q:=hF2 k hk;(try dsimp only at h);omega)|(have q:=hFb k hk;(try dsimp only at h);omega)|((try dsimp only at hk);(try dsimp only at h);omega)):OwnF G ty B w' v xs:=OwnF.kM h e hM
theorem OwnF.L (h:OwnF G ty B w v xs)(e:Le w w'):OwnF G ty B w' v xs:=h.kM e λ_ _=>not_false
theorem OwnF.low {B':Nat}(h:OwnF G ty B w v xs)(hB:B'<=B):OwnF G ty B' w v xs:=by
 refine ⟨⟨h.1.1,?_⟩,h.2⟩;rcases h.1.2 with hn|⟨g,cap,cur,rfl,hb,rest⟩
 ·exact .inl hn
 ·exact .inr ⟨g,cap,cur,rfl,Nat.le_trans hB hb,rest⟩
theorem ext_of_grown {row:Option Nat}(h:w.grownBy w' row):Ext (λk=>row=some k) w w':=
 ⟨h.os,h.tape,h.output,h.size,λk hk hn=>h.block k hk λe=>hn e.symm⟩
theorem run_append_flat {P:Program}{t tr:TypeId}{i:TypeInfo}{z y:Value}(ht:P.underlying t=some (.slice ty))(hi:P.info? ty=some i)(hz:i.zero=some z)(hsz:i.size=G.sz)(hzs:z.cells.size=G.sz)
 (hown:OwnF G ty B w v xs)(hy:Sl G.enc w F y ys)(hb:(xs.length+ys.length)*i.bytes<=140737488355328)(hl:xs.length+ys.length<=maxLen)(hB:B<=w.heap.size):
 ∃v' w',(Builtin.append_ #[t,t] tr #[v,y]).run P w=.ok v' w'∧OwnF G ty B w' v' (xs++ys)∧Ext (bk v) w w':=by
 have hsome:(∃a0,y=.slice a0 0 0∧ys=[]∧a0=none)∨∃a cap,y=.slice (some a) ys.length cap∧∀j u,(ys.flatMap G.e)[j]? =some u->w.cell? (a.add j)=some u:=by
  rcases hy.flat with ⟨a0,rfl,rfl⟩|⟨b,off,cap,hF,rfl,hc,hlt,hcell⟩
  ·cases a0 with
   |none=>exact .inl ⟨none,rfl,rfl,rfl⟩
   |some a=>exact .inr ⟨a,0,rfl,λj u hu=>by simp at hu⟩
  ·exact .inr ⟨⟨b,off,none⟩,cap,rfl,λj u hu=>by rw[Addr.add_none];exact hcell j u hu⟩
 rcases hsome with ⟨a0,rfl,rfl,rfl⟩|⟨a,cap,rfl,hcell⟩
 ·refine ⟨v,w,run_append_owned_none (P:=P) (w:=w) B t tr ty i G.sz ht hi v xs.length _ hown.1,by simpa using hown,Ext.L _ _⟩
 ·obtain ⟨v',w',hr,ho,hg,_⟩:=run_append_own (P:=P) w B t tr ty i z G.sz i.bytes ht hi hz hsz rfl hzs G.pos v xs.length _ hown.1 a ys.length cap (ys.flatMap G.e) (G.length ys)
   hcell (G.ones ys) hl hb hB
  refine ⟨v',w',hr,⟨?_,by simpa using hl⟩,(ext_of_grown hg).mono λk _ hk=>?_⟩
  ·rw [List.flatMap_append,List.length_append];exact ho
  ·cases v with
   |slice a n c=>
    cases a with
    |none=>simp[Value.ownBlock] at hk
    |some a=>simp only[Value.ownBlock,Option.some.injEq] at hk;exact hk.symm
   |_=>simp[Value.ownBlock] at hk
end
def byteF:Flat UInt8:=⟨1,λx=>[.int .u8 (x.toNat:Int)],λ_=>rfl,by simp[Value.oneCell'],by decide⟩
theorem byteF_map (l:List UInt8):l.flatMap byteF.e=l.map λx=>Value.int .u8 (x.toNat:Int):=by
 induction l with
 |nil=>rfl
 |cons a l ih=>rw[List.flatMap_cons,ih];rfl
section
variable
 {d:Nat}{x y:Operand}{t t' ty tr e:TypeId}{pos:String}{after:Array Edge}{α:Type}{E:Enc α}{G:Flat α}{F:Nat->Prop}
theorem O.alloc {z:Value}(hz:∀w,(zeroValue e).run P w=.ok z w)
 (h:∀b w',w.heap.size<=b->Own0 w' b e z.cells.toList->Le w w'->O P n ops rest N Z (upd f d (.pointer (some ⟨b,0,none⟩))) w'):
 O P n ops (ZO d (.alloc e) tr pos after::rest) N Z f w:=by
 refine O.val rfl rfl ?_ (h w.heap.size (w.alloc (.cells z.cells e)) (Nat.le_refl _) (by simpa using Own0.new w e z.cells.toList) (Le.alloc _ _));have h3:execOp (ev n f) (ZO d (.alloc e) tr pos after)=(do pure (.value (<-Instr.alloc e true (.tuple #[])))):=rfl;rw[h3,Sem.run_bind];have h4:(Instr.alloc e true (.tuple #[])).run P w=.ok (.pointer (some ⟨w.heap.size,0,none⟩)) (w.alloc (.cells z.cells e)):=by
  unfold Instr.alloc;rw[Sem.run_bind,hz]
  rfl
 rw[h4]
 rfl
theorem O.box {v:Value}(hx:ev n f x=v)
 (h:∀b w',w.heap.size<=b->Own0 w' b e v.cells.toList->Le w w'->O P n ops rest N Z (upd f d (.pointer (some ⟨b,0,none⟩))) w'):
 O P n ops (ZO d (.box e x) tr pos after::rest) N Z f w:=by
 refine O.val rfl rfl ?_ (h w.heap.size (w.alloc (.cells v.cells e)) (Nat.le_refl _) (by simpa using Own0.new w e v.cells.toList) (Le.alloc _ _));have h3:execOp (ev n f) (ZO d (.box e x) tr pos after)=(do pure (.value (<-Instr.box e (ev n f x)))):=rfl;rw[h3,Sem.run_bind,hx]
 rfl
theorem O.nilChk {a:Addr}(hx:ev n f x=.pointer (some a))(h:O P n ops rest N Z (upd f d (.pointer (some a))) w):
 O P n ops (ZO d (.nilCheck x) tr pos after::rest) N Z f w:=
 O.val rfl rfl (by simp[execOp,hx]) h
theorem O.idxA {k:IntKind}{len s b o:Nat}{i:Int}(ht:P.underlying t=some (.array len e))(hsz:∀w,(sizeOf e).run P w=.ok s w)(hx:ev n f x=.pointer (some ⟨b,o,none⟩))(hy:ev n f y=.int k i)(hi:0<=i∧i<len)
 (h:O P n ops rest N Z (upd f d (.pointer (some ⟨b,o+i.toNat*s,none⟩))) w):
 O P n ops (ZO d (.indexAddr t x y) tr pos after::rest) N Z f w:=by
 refine O.val rfl rfl ?_ h;have h3:execOp (ev n f) (ZO d (.indexAddr t x y) tr pos after)=(do pure (.value (<-Instr.indexAt t (ev n f x) (ev n f y)))):=rfl;rw[h3,Sem.run_bind,hx,hy];have h4:(Instr.indexAt t (.pointer (some ⟨b,o,none⟩)) (.int k i)).run P w=.ok (.pointer (some ⟨b,o+i.toNat*s,none⟩)) w:=by
  simp[Instr.indexAt,Instr.sureAddr,asIntOf,run_underlying ht,hi.1,hi.2,hsz,Addr.add_none]
 rw[h4]
 rfl
theorem O.store {b o:Nat}{cs:List Value}{v:Value}(hsz:∀w,(sizeOf t).run P w=.ok 1 w)(hx:ev n f x=.pointer (some ⟨b,o,none⟩))(hy:ev n f y=v)(h1:v.oneCell'=true)(ho:Own w b ty cs)(hlt:o<cs.length)
 (h:∀w',Own w' b ty (cs.set o v)->Ext (λk=>k=b) w w'->w'.heap.size=w.heap.size->O P n ops rest N Z f w'):
 O P n ops ({dst:=.none,op:=.store t x y,type:=tr,pos:=pos,after:=after,guard:=.none}::rest) N Z f w:=by
 refine O.act rfl rfl ?_ (h (w.setCell ⟨b,o,none⟩ v) (ho.set o v) (Ext.set w ⟨b,o,none⟩ v) (by simp));have h3:execOp (ev n f) {dst:=.none,op:=.store t x y,type:=tr,pos:=pos,after:=after,guard:=.none}=(do Instr.storeAt t (ev n f x) (ev n f y);pure .skip):=rfl;rw[h3,Sem.run_bind,hx,hy];have hcells:v.cells=#[v]:=by cases v<;>first|rfl|simp[Value.oneCell'] at h1
 have hc:=ho.cell (i:=o) (v:=cs[o]) (by simp);have hf:=ho.free hlt;have h4:(Instr.storeAt t (.pointer (some ⟨b,o,none⟩)) v).run P w=.ok () (w.setCell ⟨b,o,none⟩ v):=by
  simp[Instr.storeAt,Instr.sureAddr,storeVar,hsz,hcells,storeCells,Addr.add,run_store P w ⟨b,o,none⟩ v .plain h1,hc,hf]
 rw[h4]
 rfl
theorem O.loadO {b o:Nat}{cs:List Value}{v:Value}(hag:∀w,(isAgg t).run P w=.ok false w)(hx:ev n f x=.pointer (some ⟨b,o,none⟩))(ho:Own w b ty cs)(hv:cs[o]? =some v)(h:O P n ops rest N Z (upd f d v) w):
 O P n ops (ZO d (.load t x) tr pos after::rest) N Z f w:=by
 refine O.val rfl rfl ?_ h;have h3:execOp (ev n f) (ZO d (.load t x) tr pos after)=(do pure (.value (<-Instr.loadAt t (ev n f x)))):=rfl;rw[h3,Sem.run_bind,hx];have h4:(Instr.loadAt t (.pointer (some ⟨b,o,none⟩))).run P w=.ok v w:=by
  simp[Instr.loadAt,Instr.sureAddr,loadVar,hag,ho.cell hv]
 rw[h4]
 rfl
theorem O.loadR {b o:Nat}{xs:List α}{i:Nat}(hag:∀w,(isAgg t).run P w=.ok false w)(h1:E.sz=1)(hx:ev n f x=.pointer (some ⟨b,o+i,none⟩))(hr:Row E w F b o xs)(hi:i<xs.length)
 (h:∀v,E.rep w F [v] xs[i]->O P n ops rest N Z (upd f d v) w):
 O P n ops (ZO d (.load t x) tr pos after::rest) N Z f w:=
 O.load1 hag h1 hx (by have:=hr.at hi;rwa [h1,Nat.mul_one] at this) h
theorem O.lit {len:Nat}{parts:List (Nat×Operand)}{vs:List (Nat×Value)}{cells:Array Value}{ie:TypeInfo}{z:Value}(hu:P.underlying t=some (.slice e))(hie:P.info? e=some ie)(hz:ie.zero=some z)(hsmall:¬len*ie.size>2^24)(hpos:¬len*ie.size=0)
 (hvs:parts.map (λx=>(x.1,ev n f x.2))=vs)
 (hf:Instr.fill (λi=>some (i*ie.size,ie.size)) ((Array.range (len*ie.size)).map (z.cells[· %z.cells.size]!)) vs=some cells)
 (h:∀b w',w.heap.size<=b->Own0 w' b e cells.toList->Le w w'->O P n ops rest N Z (upd f d (.slice (some ⟨b,0,none⟩) len len)) w'):
 O P n ops (ZO d (.buildSlice t len parts.toArray) tr pos after::rest) N Z f w:=by
 refine O.val rfl rfl ?_ (h w.heap.size (w.alloc (.cells cells e)) (Nat.le_refl _) (by simpa using Own0.new w e cells.toList) (Le.alloc _ _));have h3:execOp (ev n f) (ZO d (.buildSlice t len parts.toArray) tr pos after)=(do pure (.value (<-Instr.buildSlice t len (parts.toArray.map λx=>(x.1,ev n f x.2))))):=rfl;rw[h3,Sem.run_bind,run_buildSlice w t e len _ cells ie z hu hie hz hsmall hpos (by simpa[hvs] using hf)]
 rfl
theorem O.lit0 {ie:TypeInfo}(hu:P.underlying t=some (.slice e))(hie:P.info? e=some ie)
 (h:∀b w',w.heap.size<=b->Own0 w' b e []->Le w w'->O P n ops rest N Z (upd f d (.slice (some ⟨b,0,none⟩) 0 0)) w'):
 O P n ops (ZO d (.buildSlice t 0 #[]) tr pos after::rest) N Z f w:=by
 refine O.val rfl rfl ?_ (h w.heap.size (w.alloc (.cells #[] e)) (Nat.le_refl _) (Own0.new w e []) (Le.alloc _ _));have h3:execOp (ev n f) (ZO d (.buildSlice t 0 #[]) tr pos after)=(do pure (.value (<-Instr.buildSlice t 0 #[]))):=by simp[execOp]
 rw[h3,Sem.run_bind];have h4:(Instr.buildSlice t 0 #[]).run P w=.ok (.slice (some ⟨w.heap.size,0,none⟩) 0 0) (w.alloc (.cells #[] e)):=by
  unfold Instr.buildSlice;rw[Sem.run_bind,run_underlying hu,Result.andThen_ok];simp only[Sem.run_bind,run_sizeOf hie,Result.andThen_ok,Nat.zero_mul];rw[if_neg (by decide),if_pos trivial];have e0:∀z:Array Value,(Array.range 0).map (λx=>z[x%z.size]!)=#[]:=λz=>by simp
  simp only[Sem.run_bind,Sem.run_pure,Result.andThen_ok,e0]
  rfl
 rw[h4]
 rfl
theorem O.bytesS {v:Value}{l:List UInt8}(ht:P.underlying t=some (.slice e))(he:P.underlying e=some (.int .u8))(ht':P.underlying t'=some .string)(hx:ev n f x=v)(hv:Sl byteE w F v l)
 (h:O P n ops rest N Z (upd f d (str l)) w):
 O P n ops (ZO d (.convert t t' x) tr pos after::rest) N Z f w:=by
 refine O.val rfl rfl ?_ h;have h3:execOp (ev n f) (ZO d (.convert t t' x) tr pos after)=(do pure (.value (<-convert t t' (ev n f x)))):=rfl;rw[h3,Sem.run_bind,hx];have h4:(convert t t' v).run P w=.ok (str l) w:=by
  rcases (show Sl byteF.enc w F v l from hv).flat with ⟨a0,rfl,rfl⟩|⟨b,off,cap,hF,rfl,hc,hlt,hcell⟩
  ·cases a0 with
   |none=>exact run_convert_bytes_nil w t e ht he 0 0 t' ht'
   |some a=>
    rw[run_convert_bytes_string w t t' e _ 0 0 ht he ht',run_bytesToString w _ 0 0 [] (run_loadCells_list w a [] (λj v hj=>by simp at hj))]
    rfl
  ·rw [run_convert_bytes_arg w t e ht he b off l.length cap (l.map λx=>(x.toNat:Int)) (by simp) (λi hi=>?_) t' ht']
   ·have:strOfNums (l.map λx=>(x.toNat:Int))=⟨l.toArray⟩:=by
     unfold strOfNums
     congr 2
     rw[List.map_map]
     conv=>rhs;rw[<-List.map_id l]
     apply List.map_congr_left
     intro a _
     simp
    rw[this];rfl
   ·have:=hcell i (.int .u8 (((l.map λx=>(x.toNat:Int)).getD i 0))) ?_
    ·exact this
    ·rw [byteF_map]
     simp[List.getD_eq_getElem?_getD,hi]
 rw[h4]
 rfl
theorem O.strB {l:List UInt8}(ht:P.underlying t=some .string)(ht':P.underlying t'=some (.slice e))(he:P.underlying e=some (.int .u8))(hx:ev n f x=str l)(hl:l.length<=maxLen)
 (h:∀b cap w',w.heap.size<=b->l.length<=cap->Own w' b e (l.flatMap byteF.e++List.replicate (cap-l.length) (.int .u8 0))->Sl byteE w' (λk=>k=b) (.slice (some ⟨b,0,none⟩) l.length cap) l->Le w w'->
   O P n ops rest N Z (upd f d (.slice (some ⟨b,0,none⟩) l.length cap)) w'):
 O P n ops (ZO d (.convert t t' x) tr pos after::rest) N Z f w:=by
 have hsz:ByteArray.size ⟨l.toArray⟩=l.length:=by simp[ByteArray.size]
 obtain ⟨cap,hcap⟩:∃cap,cap=(Question.appendCap l.length 0 e).cut (w.tape w.drawn (.appendCap l.length 0 e)):=⟨_,rfl⟩
 have hc1:l.length<=cap:=by rw[hcap];exact Nat.le_add_right _ _
 have hc2:cap<=maxLen:=by
  rw[hcap];have hlt:=Nat.mod_lt (w.tape w.drawn (.appendCap l.length 0 e)) (show 0<2^63-l.length by simp only[maxLen] at hl;omega);simp only[Question.cut,maxLen] at hl ⊢
  omega
 let cs:List Value:=l.flatMap byteF.e++List.replicate (cap-l.length) (.int .u8 0)
 have hcs:cs.length=cap:=by
  show (l.flatMap byteF.e++List.replicate (cap-l.length) (Value.int .u8 0)).length=cap;rw[List.length_append,byteF.length,List.length_replicate];show l.length*1+_=_
  omega
 let w1:World:={w with drawn:=w.drawn+1}
 let w2:World:=w1.alloc (.cells cs.toArray e)
 have hb2:w2.heap[w.heap.size]? =some (.cells cs.toArray e):=by show (w.heap.push _)[w.heap.size]? =_;simp
 have hsh:w2.shape? w.heap.size=some (e,cs.length):=by simp[World.shape?,hb2]
 have harr:(Array.map (λb:UInt8=>Value.int .u8 (b.toNat:Int)) l.toArray++Array.replicate (cap-l.length) (Value.int .u8 0))=cs.toArray:=by
  apply Array.toList_inj.1
  simp only[Array.toList_append,Array.toList_map,Array.toList_replicate];show _=l.flatMap byteF.e++List.replicate (cap-l.length) (.int .u8 0);rw[byteF_map]
 have hconv:(Conv.stringToBytes e ⟨l.toArray⟩).run P w=.ok (.slice (some ⟨w.heap.size,0,none⟩) l.length cap) (w2.freeze ⟨w.heap.size,cs.length,none⟩ 1):=by
  unfold Conv.stringToBytes;rw[Sem.run_bind,run_choose,if_neg (by simp[Question.forced]),hsz,Result.andThen_ok,<-hcap];show Sem.run P (do let a <-newRow e (Array.map (λb:UInt8=>Value.int .u8 (b.toNat:Int)) l.toArray++Array.replicate (cap-l.length) (.int .u8 0));markStringish a;pure (Value.slice (some a) l.length cap)) w1=_;rw[harr,Sem.run_bind];have hn:(newRow e cs.toArray).run P w1=.ok ⟨w.heap.size,0,none⟩ w2:=rfl;rw[hn,Result.andThen_ok,Sem.run_bind];have hm:(markStringish ⟨w.heap.size,0,none⟩).run P w2=.ok () (w2.freeze ⟨w.heap.size,cs.length,none⟩ 1):=by
   simp[markStringish,hsh]
  rw[hm,Result.andThen_ok]
  rfl
 have hblk:(w2.freeze ⟨w.heap.size,cs.length,none⟩ 1).heap[w.heap.size]? =some (.cells cs.toArray e (cs.length,cs.length+1)):=by
  unfold World.freeze;rw[if_neg (by decide)];show (w2.heap.modify w.heap.size _)[w.heap.size]? =_;rw[Array.getElem?_modify,if_pos rfl,hb2]
  simp
 have hown:Own (w2.freeze ⟨w.heap.size,cs.length,none⟩ 1) w.heap.size e cs:=⟨_,hblk,.inr rfl⟩
 have hle:Le w (w2.freeze ⟨w.heap.size,cs.length,none⟩ 1):=by
  refine ⟨rfl,rfl,rfl,?_,λk hk _=>?_⟩
  ·simp [World.freeze,w2,w1]
  ·unfold World.freeze
   rw[if_neg (by decide)];show (w2.heap.modify w.heap.size _)[k]? =_;rw[Array.getElem?_modify,if_neg (by omega)];show (w.heap.push _)[k]? =_;rw[Array.getElem?_push,if_neg (by omega)]
 refine O.val rfl rfl (w':=w2.freeze ⟨w.heap.size,cs.length,none⟩ 1) ?_ (h w.heap.size cap _ (Nat.le_refl _) hc1 hown ?_ hle)
 ·have h3:execOp (ev n f) (ZO d (.convert t t' x) tr pos after)=(do pure (.value (<-convert t t' (ev n f x)))):=rfl
  have h4:(convert t t' (str l)).run P w=(Conv.stringToBytes e ⟨l.toArray⟩).run P w:=by
   unfold convert;rw[Sem.run_bind,run_underlying ht,Result.andThen_ok,Sem.run_bind,run_underlying ht',Result.andThen_ok];simp only[str];rw[Sem.run_bind,run_underlying he,Result.andThen_ok]
  rw[h3,Sem.run_bind,hx,h4,hconv]
  rfl
 ·refine Sl.of_own (G:=byteF) hown ?_ hc1 hc2 ?_
  ·rw [<-byteF.length l]
   exact List.take_left
  ·show cap*1<=cs.length
   omega
theorem O.appF {i:TypeInfo}{z v v2:Value}{xs ys:List α}{B:Nat}(ht:P.underlying t=some (.slice e))(hi:P.info? e=some i)(hz:i.zero=some z)(hsz:i.size=G.sz)(hzs:z.cells.size=G.sz)
 (hx:ev n f x=v)(hy:ev n f y=v2)(hown:OwnF G e B w v xs)(hv2:Sl G.enc w F v2 ys)(hb:(xs.length+ys.length)*i.bytes<=140737488355328)(hl:xs.length+ys.length<=maxLen)(hB:B<=w.heap.size)
 (h:∀v' w',OwnF G e B w' v' (xs++ys)->Ext (bk v) w w'->O P n ops rest N Z (upd f d v') w'):
 O P n ops (ZO d (.call {callee:=.builtin .append,args:=[x,y].toArray,argTypes:=[t,t].toArray}) tr pos after::rest) N Z f w:=by
 obtain ⟨v',w',hr,ho,he⟩:=run_append_flat (P:=P) (tr:=tr) ht hi hz hsz hzs hown hv2 hb hl hB;refine O.val rfl rfl ?_ (h v' w' ho he);have h3:(execOp (ev n f) (ZO d (.call {callee:=.builtin .append,args:=[x,y].toArray,argTypes:=[t,t].toArray}) tr pos after)).run P w=((Builtin.append_ #[t,t] tr #[ev n f x,ev n f y]).run P w).andThen (λv w=>.ok (.value v) w):=by
  simp[execOp,resolve,invoke,builtin]
 rw[h3,hx,hy,hr]
 rfl
theorem O.subS {l:List UInt8}{lo hi:Int}{ol oh:Option Operand}(ht:P.underlying t=some .string)(hx:ev n f x=str l)
 (hlo:(ol=.none∧lo=0)∨∃o k,ol=some o∧ev n f o=.int k lo)(hhi:(oh=.none∧hi=l.length)∨∃o k,oh=some o∧ev n f o=.int k hi)(hb:0<=lo∧lo<=hi∧hi<=l.length)
 (h:O P n ops rest N Z (upd f d (str ((l.take hi.toNat).drop lo.toNat))) w):
 O P n ops (ZO d (.slice t x ol oh .none) tr pos after::rest) N Z f w:=by
 refine O.val rfl rfl ?_ h;have h3:execOp (ev n f) (ZO d (.slice t x ol oh .none) tr pos after)=(do pure (.value (<-Instr.sliceAt t (ev n f x) (ol.map (ev n f)) (oh.map (ev n f)) .none))):=rfl;have hsz:ByteArray.size ⟨l.toArray⟩=l.length:=by simp[ByteArray.size]
 have hbl:∀(k:IntKind) (x:Int) (y:Nat) (c:BoundsCode),0<=x->x<=y->(Instr.sliceBound (.int k x) y c).run P w=.ok x.toNat w:=by
  intro k x y c h0 h1
  simp[Instr.sliceBound,asIntOf,h0,h1]
 have h4:(Instr.sliceAt t (str l) (ol.map (ev n f)) (oh.map (ev n f)) .none).run P w=.ok (str ((l.take hi.toNat).drop lo.toNat)) w:=by
  have hh2:∀r:Nat,r=hi.toNat->(match (oh.map (ev n f)) with|some v=>Instr.sliceBound v l.length .sliceAlen|.none=>pure l.length:Sem Nat).run P w=.ok hi.toNat w:=by
   intro r _;rcases hhi with ⟨rfl,rfl⟩|⟨o,k,rfl,ho⟩
   ·simp
   ·simp only[Option.map_some,ho];exact hbl _ hi l.length _ (by omega) hb.2.2
  have hl2:(match (ol.map (ev n f)) with|some v=>Instr.sliceBound v hi.toNat .sliceB|.none=>pure 0:Sem Nat).run P w=.ok lo.toNat w:=by
   rcases hlo with ⟨rfl,rfl⟩|⟨o,k,rfl,ho⟩
   ·simp
   ·simp only[Option.map_some,ho];exact hbl _ lo hi.toNat _ hb.1 (by omega)
  unfold Instr.sliceAt;rw[Sem.run_bind,run_underlying ht,Result.andThen_ok];simp only[Instr.slice];rw[Sem.run_bind,run_underlying ht,Result.andThen_ok];simp only[str,hsz,Option.isSome_none,Bool.false_eq_true,if_false,Instr.sliceBounds];rcases hhi with ⟨rfl,rfl⟩|⟨o,k,rfl,ho⟩<;>rcases hlo with ⟨rfl,rfl⟩|⟨o',k',rfl,ho'⟩<;>
   simp_all[extract_mk]
 rw[h3,Sem.run_bind,hx,h4]
 rfl
theorem O.subA {len s b o:Nat}{lo hi:Int}{ol oh:Option Operand}(ht:P.underlying t=some (.array len e))(hsz:∀w,(sizeOf e).run P w=.ok s w)(hx:ev n f x=.pointer (some ⟨b,o,none⟩))
 (hlo:(ol=.none∧lo=0)∨∃z k,ol=some z∧ev n f z=.int k lo)(hhi:(oh=.none∧hi=len)∨∃z k,oh=some z∧ev n f z=.int k hi)(hb:0<=lo∧lo<=hi∧hi<=len∧lo<len)
 (h:O P n ops rest N Z (upd f d (.slice (some ⟨b,o+lo.toNat*s,none⟩) (hi.toNat-lo.toNat) (len-lo.toNat))) w):
 O P n ops (ZO d (.slice t x ol oh .none) tr pos after::rest) N Z f w:=by
 refine O.val rfl rfl ?_ h;have h3:execOp (ev n f) (ZO d (.slice t x ol oh .none) tr pos after)=(do pure (.value (<-Instr.sliceAt t (ev n f x) (ol.map (ev n f)) (oh.map (ev n f)) .none))):=rfl;have hbl:∀(k:IntKind) (x:Int) (y:Nat) (c:BoundsCode),0<=x->x<=y->(Instr.sliceBound (.int k x) y c).run P w=.ok x.toNat w:=by
  intro k x y c h0 h1
  simp[Instr.sliceBound,asIntOf,h0,h1]
 have hm:¬len=lo.toNat:=by omega
 have h4:(Instr.sliceAt t (.pointer (some ⟨b,o,none⟩)) (ol.map (ev n f)) (oh.map (ev n f)) .none).run P w=.ok (.slice (some ⟨b,o+lo.toNat*s,none⟩) (hi.toNat-lo.toNat) (len-lo.toNat)) w:=by
  unfold Instr.sliceAt;rw[Sem.run_bind,run_underlying ht,Result.andThen_ok];simp only[Instr.sliceBounds,Instr.sureAddr];rcases hhi with ⟨rfl,rfl⟩|⟨z,k,rfl,ho⟩<;>rcases hlo with ⟨rfl,rfl⟩|⟨z',k',rfl,ho'⟩
  ·simp [hsz,Addr.add_none]
  ·have h6:=hbl k' lo len .sliceB hb.1 (by omega)
   simp[hsz,Addr.add_none,ho',h6,hm]
  ·have h5:=hbl k hi len .sliceAlen (by omega) (by omega)
   simp[hsz,Addr.add_none,ho,h5]
  ·have h5:=hbl k hi len .sliceAlen (by omega) (by omega)
   have h6:=hbl k' lo hi.toNat .sliceB hb.1 (by omega)
   simp[hsz,Addr.add_none,ho,ho',h5,h6,hm]
 rw[h3,Sem.run_bind,hx,h4]
 rfl
end
theorem Own.part {α:Type}{G:Flat α}{w:World}{b:Nat}{ty:TypeId}{cs:List Value}{xs:List α}{off cap:Nat}(h:Own w b ty cs)(hcs:(cs.drop off).take (xs.length*G.sz)=xs.flatMap G.e)(h1:xs.length<=cap)(h2:cap<=maxLen)(h3:off+cap*G.sz<=cs.length):
 Sl G.enc w (λk=>k=b) (.slice (some ⟨b,off,none⟩) xs.length cap) xs:=by
 obtain ⟨fr,hb,_⟩:=h;refine ⟨by omega,.inr ⟨b,off,cap,_,ty,fr,rfl,rfl,hb,h1,h2,?_,λi hi=>?_⟩⟩
 ·intro _
  show off+cap*G.sz<=_
  simpa using h3
 ·show (_:List Value)=G.e xs[i]
  rw[<-G.seg xs hi,<-hcs];show ((cs.drop (off+i*G.sz)).take G.sz)=(((cs.drop off).take (xs.length*G.sz)).drop (i*G.sz)).take G.sz;rw[List.drop_take,List.take_take,List.drop_drop,Nat.min_eq_left];have:(i+1)*G.sz<=xs.length*G.sz:=Nat.mul_le_mul_right _ (by omega);rw[Nat.add_mul,Nat.one_mul] at this
  omega
def u64F:Flat (BitVec 64):=⟨1,λx=>[.int .u64 (x.toNat:Int)],λ_=>rfl,by simp[Value.oneCell'],by decide⟩
end Go.Pn
end
section
namespace Go.Pn
theorem OwnF.block {α:Type}{G:Flat α}{ty:TypeId}{B:Nat}{w:World}{v:Value}{xs:List α}(h:OwnF G ty B w v xs)(hne:0<xs.length):
 ∃g cap cs,v=.slice (some ⟨g,0,none⟩) xs.length cap∧Own w g ty cs∧cs.take (xs.length*G.sz)=xs.flatMap G.e∧xs.length<=cap∧cap<=maxLen∧cap*G.sz<=cs.length∧B<=g:=by
 rcases h.1.2 with ⟨rfl,h0⟩|⟨g,cap,cur,rfl,hb,hg,hn,hm,hs,ht⟩
 ·omega
 ·exact ⟨g,cap,cur.toList,rfl,⟨(0,0),by simpa using hg,.inl rfl⟩,ht,hn,hm,by simp;omega,hb⟩
section
variable
 {d:Nat}{x y:Operand}{t e tr:TypeId}{pos:String}{after:Array Edge}
theorem O.idxO {k:IntKind}{len cap s b:Nat}{i:Int}(ht:P.underlying t=some (.slice e))(hsz:∀w,(sizeOf e).run P w=.ok s w)(hx:ev n f x=.slice (some ⟨b,0,none⟩) len cap)(hy:ev n f y=.int k i)(hi:0<=i∧i<len)
 (h:O P n ops rest N Z (upd f d (.pointer (some ⟨b,0+i.toNat*s,none⟩))) w):
 O P n ops (ZO d (.indexAddr t x y) tr pos after::rest) N Z f w:=by
 refine O.val rfl rfl ?_ h;have h3:execOp (ev n f) (ZO d (.indexAddr t x y) tr pos after)=(do pure (.value (<-Instr.indexAt t (ev n f x) (ev n f y)))):=rfl;rw[h3,Sem.run_bind,hx,hy];have h4:(Instr.indexAt t (.slice (some ⟨b,0,none⟩) len cap) (.int k i)).run P w=.ok (.pointer (some ⟨b,0+i.toNat*s,none⟩)) w:=by
  simp[Instr.indexAt,asIntOf,run_underlying ht,hi.1,hi.2,hsz,Addr.add_none]
 rw[h4]
 rfl
end
end Go.Pn
end
section
namespace Go.Pn
section
variable {P:Program}{n:Nat}{l:List Oper}{N:Val->World->Prop}{X:Nat->Val->World->Prop}{R:Val->World->Prop}{Z:List PanicEntry->World->Prop}{f:Val}{w wB:World}
abbrev Q0 (n:Nat)(N:Val->World->Prop)(Z:List PanicEntry->World->Prop):Exit->Act->World->Prop:=Ex n N (λ_ _ _=>False) (λ_ _=>False) Z
def D (P:Program)(n:Nat)(l:List Oper)(listed:Array Bool)(N:Val->World->Prop)(Z:List PanicEntry->World->Prop)(wB:World)(fuel:Nat)(f:Val)(w:World):Prop:=
 wpAnyH P .any l.toArray (Q0 n N Z) (λw'=>Le wB w') fuel listed (Fr n f) w
theorem Q0_put (o:Option Nat)(v:Value):∀c a w,Q0 n N Z (.panic c) (a.put o v) w->Q0 n N Z (.panic c) a w:=by
 intro c a w h;cases o<;>exact h
theorem C.draw {id:Nat}(hm:P.follows .mixedOrders=true)(h:∀w1,Le w w1->D P n l (Array.replicate l.toArray.size false) N Z w1 l.toArray.size f w1):C P n (.region id l.toArray true) N X R Z f w:=by
 refine wp_mono (wp_region_held (S:=λw'=>Le {w with drawn:=w.drawn+1} w') hm (h {w with drawn:=w.drawn+1} ⟨rfl,rfl,rfl,Nat.le_refl _,λ_ _ _=>rfl⟩)) ?_;intro e a w he;cases e with
 |normal=>exact he
 |exit i=>obtain ⟨_,_,h⟩:=he;exact h.elim
 |goto l=>exact he
 |ret=>obtain ⟨_,_,h⟩:=he;exact h.elim
 |panic ch=>exact he
 |outgrown=>exact he
theorem C.drawB {id:Nat}(hm:P.follows .mixedOrders=true)(h:∀w1,Le w w1->D P n l (Array.replicate l.toArray.size false) N Z wB l.toArray.size f w1):C P n (.region id l.toArray true) N X R Z f w:=by
 refine wp_mono (wp_region_held (S:=λw'=>Le wB w') hm (h {w with drawn:=w.drawn+1} ⟨rfl,rfl,rfl,Nat.le_refl _,λ_ _ _=>rfl⟩)) ?_;intro e a w he;cases e with
 |normal=>exact he
 |exit i=>obtain ⟨_,_,h⟩:=he;exact h.elim
 |goto l=>exact he
 |ret=>obtain ⟨_,_,h⟩:=he;exact h.elim
 |panic ch=>exact he
 |outgrown=>exact he
theorem D.done {listed:Array Bool}{fuel:Nat}(hr:Region.ready .any l.toArray listed=[])(h:N f w):D P n l listed N Z wB fuel f w:=wpAnyH_done hr ⟨f,rfl,h⟩ fuel
theorem run_of_O {o:Oper}{d:Nat}{v:Value}{w':World}(hg:o.guard=.none)(hd:o.dst=some d)(hdn:d<n)(hX:∃X:Sem Value,execOp (ev n f) o=(do pure (.value (<-X))))
 (hO:∀N:Val->World->Prop,N (upd f d v) w'->O P n [o] [o] N (λ_ _=>False) f w'):(execOp (ev n f) o).run P w'=.ok (.value v) w':=by
 have h:=hO (λf' w''=>f'=upd f d v∧w''=w') ⟨rfl,rfl⟩;obtain ⟨X,hX⟩:=hX;unfold O at h;simp only[wpList,Region.wanted,hg,if_true] at h;rcases h with h|⟨_,_,_,h⟩
 ·unfold Oper.wp at h
  rw[eval_Fr,hX,Sem.run_bind] at h;rw[hX,Sem.run_bind];cases hr:X.run P w' with
  |ok u w''=>
   rw[hr] at h;simp only[Result.andThen,Sem.run_pure,Oper.upon,hd] at h;obtain ⟨f',e1,rfl,rfl⟩:=h;rw[put_Fr] at e1;have h2:=congrArg (λa:Act=>a.eval (.tmp d)) e1;simp only[eval_Fr,ev,Nat.ble_eq_true_of_le hdn,cond_true,upd,nbeq_self] at h2;subst h2
   rfl
  |halt x w''=>
   rw[hr] at h;simp only[Result.andThen,Oper.upon] at h;cases x<;>first|exact h.2.elim|exact h.elim
 ·exact h.elim
theorem D.take {listed:Array Bool}{fuel i:Nat}{o:Oper}{d:Nat}{v:Value}(hi:l[i]? =some o)(hg:o.guard=.none)(hd:o.dst=some d)(hdn:Nat.ble (d+1) n=true)
 (hk:(Region.noSelect l.toArray&&Region.free .any l.toArray listed i&&(Region.ready .any l.toArray listed).contains i)=true)
 (hS:Le wB w)(hX:∃X:Sem Value,execOp (ev n f) o=(do pure (.value (<-X))))
 (hO:∀w',Le wB w'->∀N:Val->World->Prop,N (upd f d v) w'->O P n [o] [o] N (λ_ _=>False) f w')
 (h:D P n l (listed.setIfInBounds i true) N Z wB fuel (upd f d v) w):D P n l listed N Z wB (fuel+1) f w:=by
 simp only[Bool.and_eq_true] at hk;have hy:YieldsIf P l.toArray (λw'=>Le wB w') o v (Fr n f):=
  .inl ⟨by simp[Region.wanted,hg],λw' hw=>by rw[eval_Fr];exact run_of_O hg hd (Nat.le_of_ble_eq_true hdn) hX (hO w' hw)⟩
 refine wpAnyH_take (i:=i) (oi:=o) (v:=v) (by simpa using hi) hk.1.1 hk.1.2 hk.2 (Q0_put _ _) hy hS ?_;rw[hd,put_Fr];exact h
theorem D.tk {listed:Array Bool}{fuel:Nat}{o:Oper}{d:Nat}{v:Value}(i:Nat)(hi:l[i]? =some o)(hg:o.guard=.none)(hd:o.dst=some d)(hdn:Nat.ble (d+1) n=true)
 (hS:Le wB w)(hX:∃X:Sem Value,execOp (ev n f) o=(do pure (.value (<-X))))
 (hO:∀w',Le wB w'->∀N:Val->World->Prop,N (upd f d v) w'->O P n [o] [o] N (λ_ _=>False) f w')
 (h:D P n l (listed.setIfInBounds i true) N Z wB fuel (upd f d v) w)(hk:(Region.noSelect l.toArray&&Region.free .any l.toArray listed i&&(Region.ready .any l.toArray listed).contains i)=true:=by kernel_rfl):D P n l listed N Z wB (fuel+1) f w:=
 D.take hi hg hd hdn hk hS hX hO h
theorem D.t {listed:Array Bool}{fuel:Nat}{op:Op}{ty:TypeId}{pos:String}{after:Array Edge}{d:Nat}{v:Value}(i:Nat)(hi:l[i]? =some (ZO d op ty pos after))
 (hS:Le wB w)
 (hO:∀w',Le wB w'->∀N:Val->World->Prop,N (upd f d v) w'->O P n [ZO d op ty pos after] [ZO d op ty pos after] N (λ_ _=>False) f w')
 (h:D P n l (listed.setIfInBounds i true) N Z wB fuel (upd f d v) w)(hdn:Nat.ble (d+1) n=true:=by rfl)(hX:∃X:Sem Value,execOp (ev n f) (ZO d op ty pos after)=(do pure (.value (<-X))):=by exact ⟨_,rfl⟩)
 (hk:(Region.noSelect l.toArray&&Region.free .any l.toArray listed i&&(Region.ready .any l.toArray listed).contains i)=true:=by kernel_rfl):D P n l listed N Z wB (fuel+1) f w:=
 D.take hi rfl rfl hdn hk hS hX hO h
theorem D.mv {listed:Array Bool}{fuel:Nat}{x:Operand}{ty:TypeId}{pos:String}{after:Array Edge}{d:Nat}(i:Nat)(hi:l[i]? =some (ZO d (.move x) ty pos after))
 (hS:Le wB w)(h:D P n l (listed.setIfInBounds i true) N Z wB fuel (upd f d (ev n f x)) w)(hdn:Nat.ble (d+1) n=true:=by rfl)
 (hk:(Region.noSelect l.toArray&&Region.free .any l.toArray listed i&&(Region.ready .any l.toArray listed).contains i)=true:=by kernel_rfl):D P n l listed N Z wB (fuel+1) f w:=
 D.take hi rfl rfl hdn hk hS ⟨pure _,rfl⟩ (λ_ _ _ hN=>O.mv (O.o hN)) h
theorem D.as {listed:Array Bool}{fuel:Nat}{x:Operand}{ty:TypeId}{pos:String}{after:Array Edge}{d:Nat}(i:Nat)(hi:l[i]? =some (ZO d (.assign x) ty pos after))
 (hS:Le wB w)(h:D P n l (listed.setIfInBounds i true) N Z wB fuel (upd f d (ev n f x)) w)(hdn:Nat.ble (d+1) n=true:=by rfl)
 (hk:(Region.noSelect l.toArray&&Region.free .any l.toArray listed i&&(Region.ready .any l.toArray listed).contains i)=true:=by kernel_rfl):D P n l listed N Z wB (fuel+1) f w:=
 D.take hi rfl rfl hdn hk hS ⟨pure _,rfl⟩ (λ_ _ _ hN=>O.j (O.o hN)) h
theorem C.sd {id:Nat}{b:Code}(h:∀{K:Val->World->Prop},(∀{wB:World} {listed:Array Bool} {fuel:Nat} {f:Val} {w:World},C P n b N X R Z f w->(_:Region.ready .any l.toArray listed=[]:=by kernel_rfl)->D P n l listed K Z wB fuel f w)->∀w1,Le w w1->w.heap.size<=w1.heap.size->D P n l (Array.replicate l.toArray.size false) K Z w1 l.toArray.size f w1)(hm:P.follows .mixedOrders=true:=by kernel_rfl):C P n (.seq (.region id l.toArray true) b) N X R Z f w:=
 C.seqK λK hK=>C.draw hm λw1 e=>h (K:=K) (λh hr=>D.done hr (hK _ _ h)) w1 e e.size
theorem D.takeYes {listed:Array Bool}{fuel i:Nat}{dst:Option Nat}{op:Op}{ty:TypeId}{pos:String}{after:Array Edge}{j dj:Nat}{b:Bool}{d:Nat}{v:Value}
 (hi:l[i]? =some {dst:=dst,op:=op,type:=ty,pos:=pos,after:=after,guard:=some (j,b)})(hd:dst=some d)(hdn:Nat.ble (d+1) n=true)
 (hk:(Region.noSelect l.toArray&&Region.free .any l.toArray listed i&&(Region.ready .any l.toArray listed).contains i)=true)
 (hj:(l[j]?).bind (·.dst)=some dj)(hv:ev n f (.tmp dj)=.bool b)
 (hS:Le wB w)(hX:∃X:Sem Value,execOp (ev n f) {dst:=dst,op:=op,type:=ty,pos:=pos,after:=after,guard:=.none}=(do pure (.value (<-X))))
 (hO:∀w',Le wB w'->∀N:Val->World->Prop,N (upd f d v) w'->O P n [{dst:=dst,op:=op,type:=ty,pos:=pos,after:=after,guard:=.none}] [{dst:=dst,op:=op,type:=ty,pos:=pos,after:=after,guard:=.none}] N (λ_ _=>False) f w')
 (h:D P n l (listed.setIfInBounds i true) N Z wB fuel (upd f d v) w):D P n l listed N Z wB (fuel+1) f w:=by
 simp only[Bool.and_eq_true] at hk;have hy0:yielded l.toArray (Fr n f).tmps j=some b:=by
  have hd:=getD_Fr n f dj;rw[hv] at hd;unfold yielded;have h1:(l.toArray[j]?).bind (·.dst)=some dj:=by simpa using hj
  rw[h1];simp only[Option.bind_some];rw[Array.getD_eq_getD_getElem?] at hd;cases hx:(Fr n f).tmps[dj]? with
  |none=>rw[hx] at hd;simp[undef] at hd
  |some v=>rw[hx] at hd;simp at hd;subst hd;rfl
 have hy:YieldsIf P l.toArray (λw'=>Le wB w') {dst:=dst,op:=op,type:=ty,pos:=pos,after:=after,guard:=some (j,b)} v (Fr n f):=
  .inl ⟨by simp[Region.wanted,hy0],λw' hw=>by rw[eval_Fr];exact run_of_O (o:={dst:=dst,op:=op,type:=ty,pos:=pos,after:=after,guard:=.none}) rfl hd (Nat.le_of_ble_eq_true hdn) hX (hO w' hw)⟩
 refine wpAnyH_take (i:=i) (v:=v) (by simpa using hi) hk.1.1 hk.1.2 hk.2 (Q0_put _ _) hy hS ?_;simp only[hd];rw[put_Fr];exact h
theorem D.ty {listed:Array Bool}{fuel:Nat}{dst:Option Nat}{op:Op}{ty:TypeId}{pos:String}{after:Array Edge}{j dj:Nat}{b:Bool}{d:Nat}{v:Value}(i:Nat)
 (hi:l[i]? =some {dst:=dst,op:=op,type:=ty,pos:=pos,after:=after,guard:=some (j,b)})(hd:dst=some d)(hdn:Nat.ble (d+1) n=true)
 (hj:(l[j]?).bind (·.dst)=some dj)(hv:ev n f (.tmp dj)=.bool b)
 (hS:Le wB w)(hX:∃X:Sem Value,execOp (ev n f) {dst:=dst,op:=op,type:=ty,pos:=pos,after:=after,guard:=.none}=(do pure (.value (<-X))))
 (hO:∀w',Le wB w'->∀N:Val->World->Prop,N (upd f d v) w'->O P n [{dst:=dst,op:=op,type:=ty,pos:=pos,after:=after,guard:=.none}] [{dst:=dst,op:=op,type:=ty,pos:=pos,after:=after,guard:=.none}] N (λ_ _=>False) f w')
 (h:D P n l (listed.setIfInBounds i true) N Z wB fuel (upd f d v) w)(hk:(Region.noSelect l.toArray&&Region.free .any l.toArray listed i&&(Region.ready .any l.toArray listed).contains i)=true:=by kernel_rfl):D P n l listed N Z wB (fuel+1) f w:=
 D.takeYes hi hd hdn hk hj hv hS hX hO h
theorem D.step {listed:Array Bool}{fuel j:Nat}{o:Oper}(hi:l[j]? =some o)(hg:o.guard=.none)
 (hO:O P n [o] [o] (λf' w'=>Le wB w'∧D P n l (listed.setIfInBounds j true) N Z wB fuel f' w') Z f w):
 wpOp P l.toArray (Q0 n N Z) j (λa' w'=>Le wB w'∧wpAnyH P .any l.toArray (Q0 n N Z) (λw'=>Le wB w') fuel (listed.setIfInBounds j true) a' w') (Fr n f) w:=by
 unfold wpOp;have hi2:l.toArray[j]? =some o:=by simpa using hi
 rw[hi2];unfold O at hO;simp only[wpList,Region.wanted,hg,if_true] at hO ⊢;have key:∀a' w',Q0 n (λf' w'=>Le wB w'∧D P n l (listed.setIfInBounds j true) N Z wB fuel f' w') Z .normal a' w'->Le wB w'∧wpAnyH P .any l.toArray (Q0 n N Z) (λw'=>Le wB w') fuel (listed.setIfInBounds j true) a' w':=by
  rintro a' w' ⟨f',rfl,h1,h2⟩;exact ⟨h1,h2⟩
 rcases hO with h|⟨_,a0,w0,h0⟩
 ·left
  unfold Oper.wp at h ⊢
  generalize (execOp (Fr n f).eval o).run P w=r at h ⊢
  cases r with
  |ok nx w'=>
   cases nx with
   |value v=>exact key _ _ h
   |skip=>exact key _ _ h
   |defer d=>exact key _ _ h
   |enter k args=>
    refine Calls.mono h ?_;intro e w'' he;cases e with
    |returned v=>exact key _ _ he
    |panicked ch=>exact he
    |outgrown=>obtain ⟨a0,w0,h0⟩:=he;exact h0.elim
   |row r args=>exact Rows.mono h λv w'' hv=>key _ _ hv
   |_=>exact h.elim
  |halt hh w'=>cases hh<;>first|exact h|exact h.elim
 ·exact h0.elim
theorem D.one {listed:Array Bool}{fuel i:Nat}{o:Oper}(hi:l[i]? =some o)(hg:o.guard=.none)(hr:Region.ready .any l.toArray listed=[i])
 (hO:O P n [o] [o] (λf' w'=>Le wB w'∧D P n l (listed.setIfInBounds i true) N Z wB fuel f' w') Z f w):D P n l listed N Z wB (fuel+1) f w:=by
 refine wpAnyH_all hr (by simp) ?_;intro j hj;obtain rfl:j=i:=by simpa using hj
 exact D.step hi hg hO
theorem D.on {listed:Array Bool}{fuel:Nat}{o:Oper}(i:Nat)(hi:l[i]? =some o)(hg:o.guard=.none)
 (hO:O P n [o] [o] (λf' w'=>Le wB w'∧D P n l (listed.setIfInBounds i true) N Z wB fuel f' w') Z f w)(hr:Region.ready .any l.toArray listed=[i]:=by kernel_rfl):D P n l listed N Z wB (fuel+1) f w:=D.one hi hg hr hO
theorem D.dn {listed:Array Bool}{fuel:Nat}(h:N f w)(hr:Region.ready .any l.toArray listed=[]:=by kernel_rfl):D P n l listed N Z wB fuel f w:=D.done hr h
end
end Go.Pn
end
section
namespace Go.Pn
section
variable {P:Program}{n:Nat}{ops rest l:List Oper}{N:Val->World->Prop}{Z:List PanicEntry->World->Prop}{f:Val}{w wB:World}
 {d:Nat}{x y:Operand}{t t' e tr ty:TypeId}{pos:String}{after:Array Edge}{α:Type}{E:Enc α}{F:Nat->Prop}
theorem Sl.at {i:Int}{s:Nat}{v:Value}{xs:List α}(ht:P.underlying t=some (.slice e))(hsz:∀w,(sizeOf e).run P w=.ok s w)(hs:E.sz=s)(hv:Sl E w F v xs)(hi:0<=i∧i<xs.length):
 ∃a,At E w F a (xs[i.toNat]'(by omega))∧∀w',(Instr.indexAt t v (i64 i)).run P w'=.ok (.pointer (some a)) w':=by
 obtain ⟨b,off,cap,rfl,hat⟩:=hv.elem (i:=i.toNat) (by omega);refine ⟨_,hat,λw'=>?_⟩
 simp[Instr.indexAt,asIntOf,run_underlying ht,hi.1,hi.2,hsz,Addr.add_none,hs]
theorem O.idxR {i:Int}{v:Value}{a:Addr}(hx:ev n f x=v)(hy:ev n f y=i64 i)(hr:∀w',(Instr.indexAt t v (i64 i)).run P w'=.ok (.pointer (some a)) w')(h:O P n ops rest N Z (upd f d (.pointer (some a))) w):
 O P n ops (ZO d (.indexAddr t x y) ty pos after::rest) N Z f w:=by
 refine O.val rfl rfl ?_ h;have h3:execOp (ev n f) (ZO d (.indexAddr t x y) ty pos after)=(do pure (.value (<-Instr.indexAt t (ev n f x) (ev n f y)))):=rfl;rw[h3,Sem.run_bind,hx,hy,hr]
 rfl
def u64E:Enc (BitVec 64):=Enc.flat 1 (λx=>[.int .u64 (x.toNat:Int)]) (λ_=>rfl) (by simp[Value.oneCell'])
theorem u64E.inv {v:Value}{x:BitVec 64}(h:u64E.rep w F [v] x):v=.int .u64 (x.toNat:Int):=by
 have:[v]=[Value.int .u64 (x.toNat:Int)]:=h
 simpa using this
theorem O.loadU64 {a:Addr}{z:BitVec 64}(hag:∀w,(isAgg t).run P w=.ok false w)(hx:ev n f x=.pointer (some a))(ha:At u64E w F a z)
 (h:O P n ops rest N Z (upd f d (.int .u64 (z.toNat:Int))) w):
 O P n ops (ZO d (.load t x) ty pos after::rest) N Z f w:=
 O.load1 hag rfl hx ha λv hv=>by rw[u64E.inv hv];exact h
theorem D.takeNo {listed:Array Bool}{fuel i:Nat}{dst:Option Nat}{op:Op}{j dj:Nat}{b:Bool}{d:Nat}
 (hi:l[i]? =some {dst:=dst,op:=op,type:=ty,pos:=pos,after:=after,guard:=some (j,b)})(hd:dst=some d)
 (hk:(Region.noSelect l.toArray&&Region.free .any l.toArray listed i&&(Region.ready .any l.toArray listed).contains i)=true)
 (hS:Le wB w)(hj:(l[j]?).bind (·.dst)=some dj)(hv:isB b (ev n f (.tmp dj))=false)
 (h:D P n l (listed.setIfInBounds i true) N Z wB fuel (upd f d undef) w):D P n l listed N Z wB (fuel+1) f w:=by
 simp only[Bool.and_eq_true] at hk;have hy0:(yielded l.toArray (Fr n f).tmps j==some b)=false:=by
  have hd:=getD_Fr n f dj;unfold yielded;have h1:(l.toArray[j]?).bind (·.dst)=some dj:=by simpa using hj
  rw[h1];simp only[Option.bind_some];rw[Array.getD_eq_getD_getElem?] at hd;cases hx:(Fr n f).tmps[dj]? with
  |none=>rfl
  |some v=>
   rw[hx] at hd;simp only[Option.getD_some] at hd;rw[<-hd] at hv;cases v<;>first|rfl|(simp only[isB] at hv;simpa using hv)
 have hy:YieldsIf P l.toArray (λw'=>Le wB w') {dst:=dst,op:=op,type:=ty,pos:=pos,after:=after,guard:=some (j,b)} undef (Fr n f):=
  .inr ⟨by simp only[Region.wanted];exact hy0,rfl⟩
 refine wpAnyH_take (i:=i) (v:=undef) (by simpa using hi) hk.1.1 hk.1.2 hk.2 (Q0_put _ _) hy hS ?_;simp only[hd];rw[put_Fr];exact h
theorem D.tn {listed:Array Bool}{fuel:Nat}{dst:Option Nat}{op:Op}{j dj:Nat}{b:Bool}{d:Nat}(i:Nat)
 (hi:l[i]? =some {dst:=dst,op:=op,type:=ty,pos:=pos,after:=after,guard:=some (j,b)})(hd:dst=some d)
 (hS:Le wB w)(hj:(l[j]?).bind (·.dst)=some dj)(hv:isB b (ev n f (.tmp dj))=false)
 (h:D P n l (listed.setIfInBounds i true) N Z wB fuel (upd f d undef) w)(hk:(Region.noSelect l.toArray&&Region.free .any l.toArray listed i&&(Region.ready .any l.toArray listed).contains i)=true:=by kernel_rfl):D P n l listed N Z wB (fuel+1) f w:=
 D.takeNo hi hd hk hS hj hv h
theorem D.split {listed:Array Bool}{fuel:Nat}{b:Bool}(hx:ev n f x=.bool b)(h1:b=true->D P n l listed N Z wB fuel f w)(h2:b=false->D P n l listed N Z wB fuel f w):D P n l listed N Z wB fuel f w:=by
 cases b
 ·exact h2 rfl
 ·exact h1 rfl
theorem D.splitD {listed:Array Bool}{fuel:Nat}{p:Prop}[Decidable p](_hx:ev n f x=.bool (decide p))(h1:p->D P n l listed N Z wB fuel f w)(h2:¬p->D P n l listed N Z wB fuel f w):D P n l listed N Z wB fuel f w:=by
 by_cases h:p
 ·exact h1 h
 ·exact h2 h
theorem D.cast {listed:Array Bool}{fuel:Nat}{v v':Value}(hv:v=v')(h:D P n l listed N Z wB fuel (upd f d v') w):D P n l listed N Z wB fuel (upd f d v) w:=hv ▸ h
theorem len_form:∃X:Sem Value,execOp (ev n f) (ZO d (.call {callee:=.builtin .len,args:=[x].toArray,argTypes:=[t].toArray}) ty pos after)=(do pure (.value (<-X))):=by
 refine ⟨Builtin.len_ #[t] ty #[ev n f x],?_⟩
 simp[execOp,resolve,invoke,builtin]
theorem pick_form {c a b:Operand}{g:Option (Nat×Bool)}:∃X:Sem Value,execOp (ev n f) {dst:=some d,op:=.pick c a b,type:=ty,pos:=pos,after:=after,guard:=g}=(do pure (.value (<-X))):=by
 refine ⟨do pure (if <-asBool (ev n f c) then ev n f a else ev n f b),?_⟩;show (do pure (.value (if <-asBool (ev n f c) then ev n f a else ev n f b)):Sem Next)=_;cases ev n f c<;>rfl
theorem O.ext {k:Nat}{xs:List Operand}{vs:List Value}{ats:Array TypeId}{g:Array Value->Sem Value}{v:Value}
 (hk:∀args w,(callFunc k args).run P w=((g args).run P w).andThen λv w'=>.ok (.value v) w')(hxs:xs.map (ev n f)=vs)(hg:(g vs.toArray).run P w=.ok v w)(h:O P n ops rest N Z (upd f d v) w):
 O P n ops (ZO d (.call {callee:=.value (.func k),args:=xs.toArray,argTypes:=ats}) ty pos after::rest) N Z f w:=by
 subst hxs;refine O.val rfl rfl ?_ h;simp only[execOp,resolve,Deferred.ofValue,invoke,ev]
 simp[hk,hg]
def ford (a b:BitVec 64):Option Ordering:=FloatKind.f64.format.order a.toNat b.toNat
def feq (a b:BitVec 64):Prop:=ford a b=some .eq
def flt (a b:BitVec 64):Prop:=ford a b=some .lt
def fgt (a b:BitVec 64):Prop:=ford a b=some .gt
instance (a b:BitVec 64):Decidable (feq a b):=inferInstanceAs (Decidable (ford a b=some .eq))
instance (a b:BitVec 64):Decidable (flt a b):=inferInstanceAs (Decidable (ford a b=some .lt))
instance (a b:BitVec 64):Decidable (fgt a b):=inferInstanceAs (Decidable (ford a b=some .gt))
variable {a b:BitVec 64}
end
end Go.Pn
end
section
namespace Go.Pn
section
variable
 {d:Nat}{x:Operand}{t e tr:TypeId}{pos:String}{after:Array Edge}
theorem O.lit1 {ie:TypeInfo}{z v:Value}(hu:P.underlying t=some (.slice e))(hie:P.info? e=some ie)(hsz:ie.size=1)(hz:ie.zero=some z)(hx:ev n f x=v)(h1:v.oneCell'=true)
 (h:∀b w',w.heap.size<=b->Own0 w' b e [v]->Le w w'->O P n ops rest N Z (upd f d (.slice (some ⟨b,0,none⟩) 1 1)) w'):
 O P n ops (ZO d (.buildSlice t 1 [(0,x)].toArray) tr pos after::rest) N Z f w:=by
 have hcells:v.cells=#[v]:=by cases v<;>first|rfl|simp[Value.oneCell'] at h1
 refine O.lit (vs:=[(0,v)]) (cells:=#[v]) hu hie hz (by rw[hsz];decide) (by rw[hsz];decide) (by simp[hx]) ?_ h;rw[hsz]
 simp[Instr.fill,hcells]
 have hr:Array.range 1=#[0]:=rfl;rw[hr]
 simp
end
theorem Sl.one {α:Type}{G:Flat α}{w:World}{b:Nat}{ty:TypeId}{x:α}{v:Value}(h:Own w b ty [v])(hv:G.e x=[v])(h1:G.sz=1):Sl G.enc w (λk=>k=b) (.slice (some ⟨b,0,none⟩) 1 1) [x]:=
 Sl.of_own (xs:=[x]) h (by simp[h1,hv]) (by simp) (by unfold maxLen;omega) (by simp[h1])
end Go.Pn
end
section
namespace Go.Pn
section
variable {P:Program}{n:Nat}{ops rest:List Oper}{N:Val->World->Prop}{Z:List PanicEntry->World->Prop}{f:Val}{w wB:World}
 {d:Nat}{x:Operand}{t e tr:TypeId}{pos:String}{after:Array Edge}{α:Type}{E:Enc α}{F:Nat->Prop}
theorem Sl.sub {s:Nat}{v:Value}{xs:List α}(lo hi:Nat)(ht:P.underlying t=some (.slice e))(hsz:∀w,(sizeOf e).run P w=.ok s w)(hs:E.sz=s)(hv:Sl E w F v xs)(h1:lo<=hi)(h2:hi<=xs.length):
 ∃v',Sl E w F v' ((xs.take hi).drop lo)∧∀low high:Option Value,((low=.none∧lo=0)∨∃k,low=some (.int k lo))->((high=.none∧hi=xs.length)∨∃k,high=some (.int k hi))->
  ∀w',(Instr.sliceAt t v low high .none).run P w'=.ok v' w':=by
 have hlen:((xs.take hi).drop lo).length=hi-lo:=by simp;omega
 have run:∀(a:Option Addr) (cap:Nat),v=.slice a xs.length cap->xs.length<=cap->∀low high:Option Value,((low=.none∧lo=0)∨∃k,low=some (.int k lo))->((high=.none∧hi=xs.length)∨∃k,high=some (.int k hi))->
  ∀w',(Instr.sliceAt t v low high .none).run P w'=.ok (.slice (if cap=lo then a else a.map (·.add (lo*s))) (hi-lo) (cap-lo)) w':=by
  rintro a cap rfl hc low high hlo hhi w';have hbl:∀(k:IntKind) (x:Nat) (y:Nat) (c:BoundsCode),x<=y->(Instr.sliceBound (.int k (x:Int)) y c).run P w'=.ok x w':=by
   intro k x y c h1;have:(x:Int)<=y:=by omega
   simp[Instr.sliceBound,asIntOf,this]
  unfold Instr.sliceAt;rw[Sem.run_bind,run_underlying ht,Result.andThen_ok];simp only[];unfold Instr.slice;rw[Sem.run_bind,run_underlying ht,Result.andThen_ok];simp only[Instr.sliceBounds];rcases hhi with ⟨rfl,rfl⟩|⟨k,rfl⟩<;>rcases hlo with ⟨rfl,rfl⟩|⟨k',rfl⟩
  ·simp [hsz]
  ·have h6:=hbl k' lo xs.length .sliceB h1
   simp[hsz,h6]
  ·have h5:=hbl k hi cap .sliceAcap (by omega)
   simp[hsz,h5]
  ·have h5:=hbl k hi cap .sliceAcap (by omega)
   have h6:=hbl k' lo hi .sliceB h1
   simp[hsz,h5,h6]
 rcases hv.2 with ⟨a0,rfl,rfl⟩|⟨b,off,cap,cur,ty,fr,rfl,hF,hb,hc1,hc2,hc3,hr⟩
 ·have e1:lo=0:=by simp at h2;omega
  have e2:hi=0:=by simpa using h2
  subst e1;subst e2;exact ⟨.slice a0 0 0,⟨by simp,.inl ⟨a0,rfl,by simp⟩⟩,by simpa using run a0 0 rfl (by simp)⟩
 ·refine ⟨_,?_,run (some ⟨b,off,none⟩) cap rfl hc1⟩
  by_cases hq:cap=lo
  ·rw [if_pos hq]
   have e0:(xs.take hi).drop lo=[]:=List.eq_nil_of_length_eq_zero (by rw[hlen];omega);rw[e0];refine ⟨by simp,.inr ⟨b,off,cap-lo,cur,ty,fr,by simp;omega,hF,hb,by simp,by omega,by simp,by simp⟩⟩
  ·rw [if_neg hq]
   simp only[Option.map_some,Addr.add_none];refine ⟨by have:=hv.1;omega,.inr ⟨b,off+lo*s,cap-lo,cur,ty,fr,by rw[hlen],hF,hb,by omega,by omega,?_,?_⟩⟩
   ·intro h0
    have h3:=hc3 (by omega);rw[hs] at h3 ⊢;have h4:lo*s+(cap-lo)*s=cap*s:=by rw[<-Nat.add_mul];congr 1;omega
    omega
   ·intro i hi2
    have h5:lo+i<xs.length:=by omega
    have h6:=hr (lo+i) h5;have e1:((xs.take hi).drop lo)[i]=xs[lo+i]:=by simp
    rw[e1];have e2:off+lo*s+i*E.sz=off+(lo+i)*E.sz:=by rw[hs,Nat.add_mul];omega
    rw[e2];exact h6
theorem O.subR {lo hi:Nat}{v v':Value}{xs:List α}{ol oh:Option Operand}(hx:ev n f x=v)
 (hr:∀low high:Option Value,((low=.none∧lo=0)∨∃k,low=some (.int k lo))->((high=.none∧hi=xs.length)∨∃k,high=some (.int k hi))->∀w',(Instr.sliceAt t v low high .none).run P w'=.ok v' w')
 (hlo:(ol=.none∧lo=0)∨∃z k,ol=some z∧ev n f z=.int k lo)(hhi:(oh=.none∧hi=xs.length)∨∃z k,oh=some z∧ev n f z=.int k hi)
 (h:O P n ops rest N Z (upd f d v') w):
 O P n ops (ZO d (.slice t x ol oh .none) tr pos after::rest) N Z f w:=by
 refine O.val rfl rfl ?_ h;have h3:execOp (ev n f) (ZO d (.slice t x ol oh .none) tr pos after)=(do pure (.value (<-Instr.sliceAt t (ev n f x) (ol.map (ev n f)) (oh.map (ev n f)) .none))):=rfl;have h4:=hr (ol.map (ev n f)) (oh.map (ev n f))
  (by rcases hlo with ⟨rfl,e⟩|⟨z,k,rfl,e⟩
      ·exact .inl ⟨rfl,e⟩
      ·exact .inr ⟨k,by simp[e]⟩)
  (by rcases hhi with ⟨rfl,e⟩|⟨z,k,rfl,e⟩
      ·exact .inl ⟨rfl,e⟩
      ·exact .inr ⟨k,by simp[e]⟩) w
 rw[h3,Sem.run_bind,hx,h4]
 rfl
theorem D.oneYes {l:List Oper}{listed:Array Bool}{fuel i:Nat}{dst:Option Nat}{op:Op}{ty:TypeId}{j dj:Nat}{b:Bool}
 (hi:l[i]? =some {dst:=dst,op:=op,type:=ty,pos:=pos,after:=after,guard:=some (j,b)})(hj:(l[j]?).bind (·.dst)=some dj)(hv:ev n f (.tmp dj)=.bool b)(hr:Region.ready .any l.toArray listed=[i])
 (hO:O P n [{dst:=dst,op:=op,type:=ty,pos:=pos,after:=after,guard:=.none}] [{dst:=dst,op:=op,type:=ty,pos:=pos,after:=after,guard:=.none}] (λf' w'=>Le wB w'∧D P n l (listed.setIfInBounds i true) N Z wB fuel f' w') Z f w):D P n l listed N Z wB (fuel+1) f w:=by
 refine wpAnyH_all hr (by simp) ?_;intro i' hi';obtain rfl:i'=i:=by simpa using hi'
 have hy0:yielded l.toArray (Fr n f).tmps j=some b:=by
  have hd:=getD_Fr n f dj;rw[hv] at hd;unfold yielded;have h1:(l.toArray[j]?).bind (·.dst)=some dj:=by simpa using hj
  rw[h1];simp only[Option.bind_some];rw[Array.getD_eq_getD_getElem?] at hd;cases hx:(Fr n f).tmps[dj]? with
  |none=>rw[hx] at hd;simp[undef] at hd
  |some v=>rw[hx] at hd;simp at hd;subst hd;rfl
 unfold wpOp;have hi2:l.toArray[i']? =some {dst:=dst,op:=op,type:=ty,pos:=pos,after:=after,guard:=some (j,b)}:=by simpa using hi
 rw[hi2];unfold O at hO;simp only[wpList,Region.wanted,if_true,hy0,beq_self_eq_true] at hO ⊢;have key:∀a' w',Q0 n (λf' w'=>Le wB w'∧D P n l (listed.setIfInBounds i' true) N Z wB fuel f' w') Z .normal a' w'->Le wB w'∧wpAnyH P .any l.toArray (Q0 n N Z) (λw'=>Le wB w') fuel (listed.setIfInBounds i' true) a' w':=by
  rintro a' w' ⟨f',rfl,h1,h2⟩;exact ⟨h1,h2⟩
 rcases hO with h|⟨_,a0,w0,h0⟩
 ·left
  unfold Oper.wp at h ⊢;have hex:execOp (Fr n f).eval {dst:=dst,op:=op,type:=ty,pos:=pos,after:=after,guard:=some (j,b)}=execOp (Fr n f).eval {dst:=dst,op:=op,type:=ty,pos:=pos,after:=after,guard:=.none}:=rfl;rw[hex]
  generalize (execOp (Fr n f).eval {dst:=dst,op:=op,type:=ty,pos:=pos,after:=after,guard:=.none}).run P w=r at h ⊢
  cases r with
  |ok nx w'=>
   cases nx with
   |value v=>exact key _ _ h
   |skip=>exact key _ _ h
   |defer d=>exact key _ _ h
   |enter k args=>
    refine Calls.mono h ?_;intro e w'' he;cases e with
    |returned v=>exact key _ _ he
    |panicked ch=>exact he
    |outgrown=>obtain ⟨a0,w0,h0⟩:=he;exact h0.elim
   |row r args=>exact Rows.mono h λv w'' hv=>key _ _ hv
   |_=>exact h.elim
  |halt hh w'=>cases hh<;>first|exact h|exact h.elim
 ·exact h0.elim
end
end Go.Pn
end
section
namespace Go.Pn
open Go.RowKit
def isNilS:Value->Bool
 |.slice none _ _=>true
 |_=>false
theorem isNilS_nil {α:Type}{E:Enc α}{w:World}{F:Nat->Prop}{v:Value}{xs:List α}(hv:Sl E w F v xs)(h:isNilS v=true):xs=[]:=by
 rcases hv.2 with ⟨a0,rfl,rfl⟩|⟨b,off,cap,cur,ty,fr,rfl,_⟩
 ·rfl
 ·cases h
section
variable
 {d:Nat}{x:Operand}{t t' e tr:TypeId}{pos:String}{after:Array Edge}{α:Type}{E:Enc α}{F:Nat->Prop}
theorem run_eql_nilS {v:Value}{xs:List α}(ht:P.underlying t=some (.slice e))(hv:Sl E w F v xs):(binOp .eql t v (.slice none 0 0)).run P w=.ok (.bool (isNilS v)) w:=by
 rcases hv.2 with ⟨a0,rfl,rfl⟩|⟨b,off,cap,cur,ty,fr,rfl,_⟩
 ·have h2:binOp .eql t (.slice a0 0 0) (.slice none 0 0)=(do pure (.bool (<-Op.equal t (.slice a0 0 0) (.slice none 0 0)))):=rfl
  have h1:(Op.equal t (.slice a0 0 0) (.slice none 0 0)).run P w=.ok (isNilS (.slice a0 0 0)) w:=by
   unfold Op.equal Op.maxDepth;rw[Op.equalIn,Sem.run_bind,run_underlying ht];cases a0<;>rfl
  rw[h2,Sem.run_bind,h1]
  rfl
 ·have h2:binOp .eql t (.slice (some ⟨b,off,none⟩) xs.length cap) (.slice none 0 0)=(do pure (.bool (<-Op.equal t (.slice (some ⟨b,off,none⟩) xs.length cap) (.slice none 0 0)))):=rfl
  have h1:(Op.equal t (.slice (some ⟨b,off,none⟩) xs.length cap) (.slice none 0 0)).run P w=.ok false w:=by
   unfold Op.equal Op.maxDepth;rw[Op.equalIn,Sem.run_bind,run_underlying ht]
   rfl
  rw[h2,Sem.run_bind,h1]
  rfl
theorem eqGuard_sl {op:BinOp}{y:Operand}{v:Value}{a:Option Addr}{k c:Nat}{xs:List α}(hv:Sl E w F v xs):(eqGuard op t x y v (.slice a k c)).run P w=.ok () w:=by
 rcases hv.2 with ⟨a0,rfl,rfl⟩|⟨b,off,cap,cur,ty,fr,rfl,_⟩<;>cases op<;>rfl
theorem O.eqlNilS {v:Value}{xs:List α}(ht:P.underlying t=some (.slice e))(hx:ev n f x=v)(hv:Sl E w F v xs)(h:O P n ops rest N Z (upd f d (.bool (isNilS v))) w):
 O P n ops (ZO d (.binOp .eql t x (.const (.slice none 0 0)) t') tr pos after::rest) N Z f w:=
 O.val rfl rfl (run_bin hx (y:=.const (.slice none 0 0)) rfl (eqGuard_sl hv) (run_eql_nilS ht hv) _ _) h
end
theorem OwnF.lit0 {α:Type}{G:Flat α}{ty:TypeId}{B:Nat}{w:World}{b:Nat}(h:Own0 w b ty [])(hB:B<=b):OwnF G ty B w (.slice (some ⟨b,0,none⟩) 0 0) []:=
 ⟨⟨by simp,.inr ⟨b,0,#[],rfl,hB,h,by simp,by unfold maxLen;omega,by simp,by simp⟩⟩,by simp⟩
theorem fill_seq:∀(vs:List Value) (k:Nat) (cells:Array Value),cells.size=k+vs.length->(∀v∈vs,v.oneCell'=true)->
 Instr.fill (λi=>some (i*1,1)) cells ((List.range' k vs.length).zip vs)=some (cells.toList.take k++vs).toArray:=by
 intro vs
 induction vs with
 |nil=>
  intro k cells h _;have e:cells.toList.take k=cells.toList:=List.take_of_length_le (by simp at h;simp;omega)
  simp[Instr.fill,e]
 |cons v vs ih=>
  intro k cells h h1;have hv:=h1 v (by simp);have hcells:v.cells=#[v]:=by cases v<;>first|rfl|simp[Value.oneCell'] at hv
  rw[List.length_cons,List.range'_succ,List.zip_cons_cons];unfold Instr.fill;simp only[hcells,Nat.mul_one];rw[if_neg (by simp at h ⊢;omega)];have e:(#[v].zipIdx.foldl (λ(cs:Array Value) (x:Value×Nat)=>cs.setIfInBounds (k+x.2) x.1) cells)=cells.setIfInBounds k v:=by simp
  have h2:=ih (k+1) (cells.setIfInBounds k v) (by rw[Array.size_setIfInBounds,h,List.length_cons];omega) (λu hu=>h1 u (by simp[hu]));simp only[Nat.mul_one] at h2;rw[e,h2];have hk:k<cells.toList.length:=by simp at h ⊢;omega
  have e2:(cells.setIfInBounds k v).toList.take (k+1)=cells.toList.take k++[v]:=by
   rw[Array.toList_setIfInBounds,List.take_succ_eq_append_getElem (by simpa using hk)];have e3:List.take k (cells.toList.set k v)=List.take k cells.toList:=by
    rw[List.take_set,List.set_eq_of_length_le (by simp;omega)]
   rw[e3]
   simp
  rw[e2,List.append_assoc]
  rfl
section
variable
 {d:Nat}{t e tr:TypeId}{pos:String}{after:Array Edge}
theorem O.litn {len:Nat}{parts:List (Nat×Operand)}{ie:TypeInfo}{z:Value}(vs:List Value)(hu:P.underlying t=some (.slice e))(hie:P.info? e=some ie)(hsz:ie.size=1)(hz:ie.zero=some z)(hl:vs.length=len)(hsmall:¬len>2^24)(hpos:¬len=0)
 (hvs:parts.map (λx=>(x.1,ev n f x.2))=(List.range' 0 vs.length).zip vs)(h1:∀v∈vs,v.oneCell'=true)
 (h:∀b w',w.heap.size<=b->Own0 w' b e vs->Le w w'->O P n ops rest N Z (upd f d (.slice (some ⟨b,0,none⟩) len len)) w'):
 O P n ops (ZO d (.buildSlice t len parts.toArray) tr pos after::rest) N Z f w:=by
 refine O.lit (cells:=vs.toArray) hu hie hz (by rw[hsz,Nat.mul_one];exact hsmall) (by rw[hsz,Nat.mul_one];exact hpos) hvs ?_ (by simpa using h);rw[hsz,fill_seq vs 0 _ (by simp[hl]) h1]
 simp
end
section
variable
 {d:Nat}{x:Operand}{t tr:TypeId}{pos:String}{after:Array Edge}
end
theorem OwnF.ptr {α:Type}{G:Flat α}{ty:TypeId}{B:Nat}{w:World}{v:Value}{xs:List α}(h:OwnF G ty B w v xs)(hne:0<xs.length):∃g cap,v=.slice (some ⟨g,0,none⟩) xs.length cap:=by
 obtain ⟨g,cap,_,hv,_⟩:=h.block hne;exact ⟨g,cap,hv⟩
section
variable
 {x y:Operand}{t tr:TypeId}{pos:String}{after:Array Edge}
end
section
variable
 {d:Nat}{x y:Operand}{t t' tr:TypeId}{pos:String}{after:Array Edge}{α:Type}{G:Flat α}{F:Nat->Prop}
theorem O.fieldAd {fields:Array Field}{fd:Field}{k s b o:Nat}(ht:P.underlying t=some (.struct fields))(hf:fields[k]? =some fd)(hs:∀w,(sizeOf fd.type).run P w=.ok s w)(h0:s≠0)(hx:ev n f x=.pointer (some ⟨b,o,none⟩))
 (h:O P n ops rest N Z (upd f d (.pointer (some ⟨b,o+fd.offset,none⟩))) w):O P n ops (ZO d (.fieldAddr t x k) tr pos after::rest) N Z f w:=by
 refine O.val rfl rfl ?_ h;have h3:execOp (ev n f) (ZO d (.fieldAddr t x k) tr pos after)=(do pure (.value (<-Instr.fieldAt t (ev n f x) k))):=rfl;rw[h3,Sem.run_bind,hx];have h4:(Instr.fieldAt t (.pointer (some ⟨b,o,none⟩)) k).run P w=.ok (.pointer (some ⟨b,o+fd.offset,none⟩)) w:=by
  unfold Instr.fieldAt;rw[Sem.run_bind,run_underlying ht,Result.andThen_ok]
  simp[hf,Instr.sureAddr,fieldPlace,hs,h0,Addr.add_none]
 rw[h4]
 rfl
theorem O.fa {fields:Array Field}{fd:Field}{k s b o:Nat}(ht:P.underlying t=some (.struct fields))(hf:fields[k]? =some fd)(hs:∀w,(sizeOf fd.type).run P w=.ok s w)(hx:ev n f x=.pointer (some ⟨b,o,none⟩))
 (h:O P n ops rest N Z (upd f d (.pointer (some ⟨b,o+fd.offset,none⟩))) w)(h0:s≠0:=by decide):O P n ops (ZO d (.fieldAddr t x k) tr pos after::rest) N Z f w:=O.fieldAd ht hf hs h0 hx h
theorem run_load_flat {a:Addr}{z:α}(ha:At G.enc w F a z):(loadCells a G.sz).run P w=.ok (G.e z).toArray w:=by
 obtain ⟨b,off,cur,ty,fr,rfl,hF,hb,hs,hr⟩:=ha;have hr':(cur.toList.drop off).take G.sz=G.e z:=hr;rw[<-G.len z];refine run_loadCells_list w ⟨b,off,none⟩ (G.e z) λj v hj=>?_
 rw[Addr.add_none];rw[<-hr',List.getElem?_take] at hj
 split at hj
 ·rw [List.getElem?_drop] at hj
  simp only[World.cell?,hb,Option.isSome_none,Bool.false_eq_true,if_false]
  simpa using hj
 ·cases hj
theorem O.loadG {a:Addr}{z:α}(hag:∀w,(isAgg t).run P w=.ok true w)(hs:∀w,(sizeOf t).run P w=.ok G.sz w)(hx:ev n f x=.pointer (some a))(ha:At G.enc w F a z)
 (h:O P n ops rest N Z (upd f d (.agg (G.e z).toArray)) w):O P n ops (ZO d (.load t x) tr pos after::rest) N Z f w:=by
 refine O.val rfl rfl ?_ h;have h3:execOp (ev n f) (ZO d (.load t x) tr pos after)=(do pure (.value (<-Instr.loadAt t (ev n f x)))):=rfl;rw[h3,Sem.run_bind,hx];have h4:(Instr.loadAt t (.pointer (some a))).run P w=.ok (.agg (G.e z).toArray) w:=by
  simp[Instr.loadAt,Instr.sureAddr,loadVar,hag,hs,run_load_flat (P:=P) ha]
 rw[h4]
 rfl
theorem O.loadOA {b o s:Nat}{ty:TypeId}{cs:List Value}(hag:∀w,(isAgg t).run P w=.ok true w)(hs:∀w,(sizeOf t).run P w=.ok s w)(hx:ev n f x=.pointer (some ⟨b,o,none⟩))(ho:Own w b ty cs)(hlt:o+s<=cs.length)
 (h:O P n ops rest N Z (upd f d (.agg ((cs.drop o).take s).toArray)) w):O P n ops (ZO d (.load t x) tr pos after::rest) N Z f w:=by
 refine O.val rfl rfl ?_ h;have h3:execOp (ev n f) (ZO d (.load t x) tr pos after)=(do pure (.value (<-Instr.loadAt t (ev n f x)))):=rfl;rw[h3,Sem.run_bind,hx];have hl:((cs.drop o).take s).length=s:=by simp;omega
 have hr:(loadCells ⟨b,o,none⟩ s).run P w=.ok ((cs.drop o).take s).toArray w:=by
  have h5:=run_loadCells_list (P:=P) w ⟨b,o,none⟩ ((cs.drop o).take s) λj v hj=>by
   rw[Addr.add_none];rw[List.getElem?_take] at hj
   split at hj
   ·rw [List.getElem?_drop] at hj;exact ho.cell hj
   ·cases hj
  rwa [hl] at h5
 have h4:(Instr.loadAt t (.pointer (some ⟨b,o,none⟩))).run P w=.ok (.agg ((cs.drop o).take s).toArray) w:=by
  simp[Instr.loadAt,Instr.sureAddr,loadVar,hag,hs,hr]
 rw[h4]
 rfl
theorem O.build {parts:List (Nat×Operand)}{vs:List (Nat×Value)}{cells:Array Value}(hvs:parts.map (λx=>(x.1,ev n f x.2))=vs)(hb:P.built t vs=some cells)(h:O P n ops rest N Z (upd f d (.agg cells)) w):
 O P n ops (ZO d (.build t parts.toArray) tr pos after::rest) N Z f w:=by
 refine O.val rfl rfl ?_ h;have h3:execOp (ev n f) (ZO d (.build t parts.toArray) tr pos after)=(do pure (.value (<-Instr.build t (parts.toArray.map λx=>(x.1,ev n f x.2))))):=rfl;rw[h3,Sem.run_bind,run_build w t _ cells (by simpa[hvs] using hb)]
 rfl
end
theorem run_storeCells_own {P:Program}{b:Nat}{ty:TypeId}:∀(vs:List Value) (o i:Nat) (cs:List Value) (w:World),Own w b ty cs->o+i+vs.length<=cs.length->(∀v∈vs,v.oneCell'=true)->
 ∃w',(storeCells ⟨b,o,none⟩ vs i).run P w=.ok () w'∧Own w' b ty (cs.take (o+i)++vs++cs.drop (o+i+vs.length))∧Ext (λk=>k=b) w w'∧w'.heap.size=w.heap.size:=by
 intro vs
 induction vs with
 |nil=>
  intro o i cs w ho _ _;exact ⟨w,rfl,by simpa using ho,Ext.L _ _,rfl⟩
 |cons v vs ih=>
  intro o i cs w ho hl h1;have hl':o+i<cs.length:=by simp at hl;omega
  have hv:=h1 v (by simp);have hc:=ho.cell (i:=o+i) (v:=cs[o+i]) (by simp);have hf:=ho.free hl';have ho':=ho.set (o+i) v;obtain ⟨w',hr,ho2,he,hs⟩:=ih o (i+1) (cs.set (o+i) v) _ ho' (by simp at hl ⊢;omega) (λu hu=>h1 u (by simp[hu]));refine ⟨w',?_,?_,(Ext.set w ⟨b,o+i,none⟩ v).trans he,by rw[hs];simp⟩
  ·have e:storeCells ⟨b,o,none⟩ (v::vs) i=(do store ((⟨b,o,none⟩:Addr).add i) v;storeCells ⟨b,o,none⟩ vs (i+1)):=rfl
   rw[e,Sem.run_bind,Addr.add_none];have hst:(store ⟨b,o+i,none⟩ v).run P w=.ok () (w.setCell ⟨b,o+i,none⟩ v):=by
    have:=run_store P w ⟨b,o+i,none⟩ v .plain hv
    simpa[hc,hf] using this
   rw[hst,Result.andThen_ok,hr]
  ·have e1:(cs.set (o+i) v).take (o+(i+1))=cs.take (o+i)++[v]:=by
    rw[show o+(i+1)=o+i+1 by omega,List.take_succ_eq_append_getElem (by simpa using hl')];rw[List.take_set,List.set_eq_of_length_le (by simp;omega)]
    simp
   have e2:(cs.set (o+i) v).drop (o+(i+1)+vs.length)=cs.drop (o+i+(vs.length+1)):=by
    rw[List.drop_set_of_lt (by omega)]
    congr 1
    omega
   rw[e1,e2] at ho2
   simpa using ho2
section
variable
 {x y:Operand}{t ty tr:TypeId}{pos:String}{after:Array Edge}
theorem O.storeA {b o s:Nat}{cs vs:List Value}(hsz:∀w,(sizeOf t).run P w=.ok s w)(hl:vs.length=s)(hx:ev n f x=.pointer (some ⟨b,o,none⟩))(hy:ev n f y=.agg vs.toArray)(h1:∀v∈vs,v.oneCell'=true)(ho:Own w b ty cs)(hlt:o+s<=cs.length)
 (h:∀w',Own w' b ty (cs.take o++vs++cs.drop (o+s))->Ext (λk=>k=b) w w'->w'.heap.size=w.heap.size->O P n ops rest N Z f w'):
 O P n ops ({dst:=.none,op:=.store t x y,type:=tr,pos:=pos,after:=after,guard:=.none}::rest) N Z f w:=by
 subst hl;obtain ⟨w',hr,ho',he,hs⟩:=run_storeCells_own (P:=P) vs o 0 cs w ho (by simpa using hlt) h1;refine O.act rfl rfl ?_ (h w' (by simpa using ho') he hs);have h3:execOp (ev n f) {dst:=.none,op:=.store t x y,type:=tr,pos:=pos,after:=after,guard:=.none}=(do Instr.storeAt t (ev n f x) (ev n f y);pure .skip):=rfl;rw[h3,Sem.run_bind,hx,hy];have h4:(Instr.storeAt t (.pointer (some ⟨b,o,none⟩)) (.agg vs.toArray)).run P w=.ok () w':=by
  simp[Instr.storeAt,Instr.sureAddr,storeVar,hsz,Value.cells,hr]
 rw[h4]
 rfl
end
end Go.Pn
end
section
namespace Go.Pn
open Go.RowKit
section
variable {P:Program}{n:Nat}{ops rest:List Oper}{N:Val->World->Prop}{X:Nat->Val->World->Prop}{R:Val->World->Prop}{Z:List PanicEntry->World->Prop}{f:Val}{w:World}
 {d:Nat}{x y:Operand}{t t' e tr:TypeId}{pos:String}{after:Array Edge}
theorem run_eq_pair {f0 f1:Field} (ht:P.underlying t=some (.struct #[f0,f1])) (n0:f0.name≠ "_") (n1:f1.name≠ "_") (o0:f0.offset=0) (o1:f1.offset=1) (u0:P.underlying f0.type=some (.int .i64)) (u1:P.underlying f1.type=some (.int .i64))
 (a0:∀w,(isAgg f0.type).run P w=.ok false w) (a1:∀w,(isAgg f1.type).run P w=.ok false w) (hp:P.stoodInHeld t=false) (a b:Int×Int):
 (Op.equalIn 10000 t (.agg #[.int .i64 a.1,.int .i64 a.2]) (.agg #[.int .i64 b.1,.int .i64 b.2])).run P w=.ok (decide (a=b)) w:=by
 have hf:P.fieldsOf t=#[f0,f1]:=by unfold Program.fieldsOf;rw[ht]
 rw[run_equalIn_struct w 9999 t _ _ (by rw[hf];exact ht) hp,hf];have e0:∀v w,(Op.equalIn 9999 f0.type (.int .i64 a.1) (.int .i64 v)).run P w=.ok (a.1==v) w:=λv w=>run_equalIn_int w 9998 f0.type .i64 .i64 a.1 v u0
 have e1:∀v w,(Op.equalIn 9999 f1.type (.int .i64 a.2) (.int .i64 v)).run P w=.ok (a.2==v) w:=λv w=>run_equalIn_int w 9998 f1.type .i64 .i64 a.2 v u1
 simp only[Op.eqFields,n0,n1,ne_eq,not_false_eq_true,if_true,Sem.run_bind,part,a0,Result.andThen_ok,Bool.false_eq_true,if_false,o0,o1];simp only[show (#[Value.int .i64 a.1,.int .i64 a.2])[0]? =some (Value.int .i64 a.1) from rfl,show (#[Value.int .i64 a.1,.int .i64 a.2])[1]? =some (Value.int .i64 a.2) from rfl,
  show (#[Value.int .i64 b.1,.int .i64 b.2])[0]? =some (Value.int .i64 b.1) from rfl,show (#[Value.int .i64 b.1,.int .i64 b.2])[1]? =some (Value.int .i64 b.2) from rfl,Sem.run_pure,Result.andThen_ok,e0,Sem.run_ite]
 by_cases h1:a.1=b.1
 ·by_cases h2:a.2=b.2
  ·obtain rfl:a=b:=Prod.ext h1 h2
   simp[e1,a1]
  ·have h:¬a=b:=λh=>h2 (by rw[h])
   have h3:(a.2==b.2)=false:=by simpa using h2
   have h4:(a.1==b.1)=true:=by simpa using h1
   simp[e1,h,a1,h3,h4]
 ·have h:¬a=b:=λh=>h1 (by rw[h])
  simp[h1,h]
theorem O.eqlP {f0 f1:Field} {a b:Int×Int} (ht:P.underlying t=some (.struct #[f0,f1])) (n0:f0.name≠ "_") (n1:f1.name≠ "_") (o0:f0.offset=0) (o1:f1.offset=1) (u0:P.underlying f0.type=some (.int .i64)) (u1:P.underlying f1.type=some (.int .i64))
 (a0:∀w,(isAgg f0.type).run P w=.ok false w) (a1:∀w,(isAgg f1.type).run P w=.ok false w) (hp:P.stoodInHeld t=false) (hm:P.eqGuardType P.depth t=false)
 (hx:ev n f x=.agg #[.int .i64 a.1,.int .i64 a.2]) (hy:ev n f y=.agg #[.int .i64 b.1,.int .i64 b.2]) (h:O P n ops rest N Z (upd f d (.bool (decide (a=b)))) w):
 O P n ops (ZO d (.binOp .eql t x y t') tr pos after::rest) N Z f w:=
 O.val rfl rfl (run_bin hx hy (run_eqGuard_agg w _ _ _ _ _ _ hm) (by rw[run_eql_struct,run_eq_pair ht n0 n1 o0 o1 u0 u1 a0 a1 hp];rfl) _ _) h
theorem O.neqP {f0 f1:Field} {a b:Int×Int} (ht:P.underlying t=some (.struct #[f0,f1])) (n0:f0.name≠ "_") (n1:f1.name≠ "_") (o0:f0.offset=0) (o1:f1.offset=1) (u0:P.underlying f0.type=some (.int .i64)) (u1:P.underlying f1.type=some (.int .i64))
 (a0:∀w,(isAgg f0.type).run P w=.ok false w) (a1:∀w,(isAgg f1.type).run P w=.ok false w) (hp:P.stoodInHeld t=false) (hm:P.eqGuardType P.depth t=false)
 (hx:ev n f x=.agg #[.int .i64 a.1,.int .i64 a.2]) (hy:ev n f y=.agg #[.int .i64 b.1,.int .i64 b.2]) (h:O P n ops rest N Z (upd f d (.bool (decide (a≠b)))) w):
 O P n ops (ZO d (.binOp .neq t x y t') tr pos after::rest) N Z f w:=
 O.val rfl rfl (run_bin hx hy (run_eqGuard_agg w _ _ _ _ _ _ hm) (by rw[run_neq_struct,run_eq_pair ht n0 n1 o0 o1 u0 u1 a0 a1 hp];simp[Result.andThen]) _ _) h
theorem O.boxD {v:Value}(hx:ev n f x=v)
 (h:∀b w',w.heap.size<=b->Own0 w' b e v.cells.toList->Le w w'->w'.drawn=w.drawn->O P n ops rest N Z (upd f d (.pointer (some ⟨b,0,none⟩))) w'):
 O P n ops (ZO d (.box e x) tr pos after::rest) N Z f w:=by
 refine O.val rfl rfl ?_ (h w.heap.size (w.alloc (.cells v.cells e)) (Nat.le_refl _) (by simpa using Own0.new w e v.cells.toList) (Le.alloc _ _) rfl);have h3:execOp (ev n f) (ZO d (.box e x) tr pos after)=(do pure (.value (<-Instr.box e (ev n f x)))):=rfl;rw[h3,Sem.run_bind,hx]
 rfl
theorem O.litnD {len:Nat}{parts:List (Nat×Operand)}{ie:TypeInfo}{z:Value}(vs:List Value)(hu:P.underlying t=some (.slice e))(hie:P.info? e=some ie)(hsz:ie.size=1)(hz:ie.zero=some z)(hl:vs.length=len)(hsmall:¬len>2^24)(hpos:¬len=0)
 (hvs:parts.map (λx=>(x.1,ev n f x.2))=(List.range' 0 vs.length).zip vs)(h1:∀v∈vs,v.oneCell'=true)
 (h:∀b w',w.heap.size<=b->Own0 w' b e vs->Le w w'->w'.drawn=w.drawn->O P n ops rest N Z (upd f d (.slice (some ⟨b,0,none⟩) len len)) w'):
 O P n ops (ZO d (.buildSlice t len parts.toArray) tr pos after::rest) N Z f w:=by
 refine O.val rfl rfl ?_ (h w.heap.size (w.alloc (.cells vs.toArray e)) (Nat.le_refl _) (by simpa using Own0.new w e vs) (Le.alloc _ _) rfl);have h3:execOp (ev n f) (ZO d (.buildSlice t len parts.toArray) tr pos after)=(do pure (.value (<-Instr.buildSlice t len (parts.toArray.map λx=>(x.1,ev n f x.2))))):=rfl;have hf:Instr.fill (λi=>some (i*ie.size,ie.size)) ((Array.range (len*ie.size)).map (z.cells[· %z.cells.size]!)) (parts.map λx=>(x.1,ev n f x.2))=some vs.toArray:=by
  rw[hvs,hsz,fill_seq vs 0 _ (by simp[hl]) h1]
  simp
 rw[h3,Sem.run_bind,run_buildSlice w t e len _ vs.toArray ie z hu hie hz (by rw[hsz,Nat.mul_one];exact hsmall) (by rw[hsz,Nat.mul_one];exact hpos) (by simpa using hf)]
 rfl
theorem C.drawD {l:List Oper}{id:Nat}(hm:P.follows .mixedOrders=true)(h:∀w1,Le w w1->w1.drawn=w.drawn+1->D P n l (Array.replicate l.toArray.size false) N Z w1 l.toArray.size f w1):C P n (.region id l.toArray true) N X R Z f w:=by
 refine wp_mono (wp_region_held (S:=λw'=>Le {w with drawn:=w.drawn+1} w') hm (h {w with drawn:=w.drawn+1} ⟨rfl,rfl,rfl,Nat.le_refl _,λ_ _ _=>rfl⟩ rfl)) ?_;intro e a w he;cases e with
 |normal=>exact he
 |exit i=>obtain ⟨_,_,h⟩:=he;exact h.elim
 |goto l=>exact he
 |ret=>obtain ⟨_,_,h⟩:=he;exact h.elim
 |panic ch=>exact he
 |outgrown=>exact he
end
theorem Outs.cellA {P:Program}{fn:Func}{n:Nat}{Post:Value->World->Prop}{f:Val}{w:World}{t s b:Nat}{ty ty':TypeId}{cs:List Value}(hr:fn.results=#[.cell t ty])(hag:∀w,(isAgg ty).run P w=.ok true w)(hs:∀w,(sizeOf ty).run P w=.ok s w)
 (hv:ev n f (.tmp t)=.pointer (some ⟨b,0,Option.none⟩))(ho:Own w b ty' cs)(hl:cs.length=s)(h:Post (.agg cs.toArray) w):Outs P fn n Post f w:=by
 refine ⟨_,?_,h⟩;have hc:(loadCells ⟨b,0,Option.none⟩ s).run P w=.ok cs.toArray w:=by
  have:=run_loadCells_list (P:=P) w ⟨b,0,Option.none⟩ cs λj v hj=>by rw[Addr.add_none,Nat.zero_add];exact ho.cell hj
  rwa [hl] at this
 have hg:(Fr n f).tmps.getD t undef=.pointer (some ⟨b,0,Option.none⟩):=(getD_Fr n f t).trans hv
 simp[results,hr,-Array.getD_eq_getD_getElem?,hg,asAddr,loadVar,hag,hs,hc]
theorem Outs.cellA2 {P:Program}{fn:Func}{n:Nat}{Post:Value->World->Prop}{f:Val}{w:World}{t u s b:Nat}{ty ty':TypeId}{cs:List Value}{v':Value}(hr:fn.results=#[.cell t ty,.tmp u])(hag:∀w,(isAgg ty).run P w=.ok true w)(hs:∀w,(sizeOf ty).run P w=.ok s w)
 (hv:ev n f (.tmp t)=.pointer (some ⟨b,0,Option.none⟩))(hv':ev n f (.tmp u)=v')(ho:Own w b ty' cs)(hl:cs.length=s)(h:Post (.tuple #[.agg cs.toArray,v']) w):Outs P fn n Post f w:=by
 refine ⟨_,?_,h⟩;have hc:(loadCells ⟨b,0,Option.none⟩ s).run P w=.ok cs.toArray w:=by
  have:=run_loadCells_list (P:=P) w ⟨b,0,Option.none⟩ cs λj v hj=>by rw[Addr.add_none,Nat.zero_add];exact ho.cell hj
  rwa [hl] at this
 have hg:(Fr n f).tmps.getD t undef=.pointer (some ⟨b,0,Option.none⟩):=(getD_Fr n f t).trans hv;have hg':(Fr n f).tmps.getD u undef=v':=(getD_Fr n f u).trans hv'
 simp[results,hr,-Array.getD_eq_getD_getElem?,hg,hg',asAddr,loadVar,hag,hs,hc]
theorem grow_of_le {w w':World}(e:Le w w')(hd:w.drawn<=w'.drawn):∃q os,w'=Go.Sort.grow (w.drewN q) os:=by
 refine ⟨w'.drawn-w.drawn,w'.heap.extract w.heap.size w'.heap.size,?_⟩;have hheap:w'.heap=w.heap++w'.heap.extract w.heap.size w'.heap.size:=by
  apply Array.ext_getElem?
  intro i
  by_cases hi:i<w.heap.size
  ·rw [Array.getElem?_append_left hi]
   exact e.block i hi not_false
  ·rw [Array.getElem?_append_right (by omega),Array.getElem?_extract]
   have hs:=e.size
   split
   ·congr 1
    omega
   ·rw [Array.getElem?_eq_none (by omega)]
 have hdr:w'.drawn=w.drawn+(w'.drawn-w.drawn):=by omega
 have e1:=e.os;have e2:=e.tape;have e3:=e.output;cases w with
 |mk h t d o u=>
  cases w' with
  |mk h' t' d' o' u'=>
   simp only at hheap hdr e1 e2 e3;subst e1 e2 e3;unfold Go.Sort.grow World.drewN;simp only[World.mk.injEq,true_and,and_true];exact ⟨hheap,hdr⟩
theorem foldl_sets (off:Nat):∀(vs:List Value) (i:Nat) (cs:Array Value),off+i+vs.length<=cs.size->
 ((vs.zipIdx i).foldl (λ(cs:Array Value) (x:Value×Nat)=>cs.setIfInBounds (off+x.2) x.1) cs).toList=cs.toList.take (off+i)++vs++cs.toList.drop (off+i+vs.length):=by
 intro vs
 induction vs with
 |nil=>intro i cs _;simp
 |cons v vs ih=>
  intro i cs h;rw[List.zipIdx_cons,List.foldl_cons,ih (i+1) _ (by simp at h ⊢;omega)];have hl:off+i<cs.toList.length:=by simp at h ⊢;omega
  simp only[Array.toList_setIfInBounds];have e1:(cs.toList.set (off+i) v).take (off+(i+1))=cs.toList.take (off+i)++[v]:=by
   rw[show off+(i+1)=off+i+1 by omega,List.take_succ_eq_append_getElem (by simpa using hl),List.take_set,List.set_eq_of_length_le (by simp;omega)]
   simp
  have e2:(cs.toList.set (off+i) v).drop (off+(i+1)+vs.length)=cs.toList.drop (off+i+(vs.length+1)):=by
   rw[List.drop_set_of_lt (by omega)]
   congr 1
   omega
  rw[e1,e2]
  simp
theorem fill_flat {α:Type}(G:Flat α):∀(vs:List α) (k:Nat) (cells:Array Value),cells.size=k*G.sz+vs.length*G.sz->
 Instr.fill (λi=>some (i*G.sz,G.sz)) cells ((List.range' k vs.length).zip (vs.map λx=>.agg (G.e x).toArray))=some (cells.toList.take (k*G.sz)++vs.flatMap G.e).toArray:=by
 intro vs
 induction vs with
 |nil=>
  intro k cells h;have e:cells.toList.take (k*G.sz)=cells.toList:=List.take_of_length_le (by simp at h;simp;omega)
  simp[Instr.fill,e]
 |cons v vs ih=>
  intro k cells h;have hk:(k+1)*G.sz=k*G.sz+G.sz:=by rw[Nat.add_mul,Nat.one_mul]
  have hv:(vs.length+1)*G.sz=vs.length*G.sz+G.sz:=by rw[Nat.add_mul,Nat.one_mul]
  rw[List.length_cons,hv] at h;rw[List.length_cons,List.map_cons,List.range'_succ,List.zip_cons_cons];unfold Instr.fill;have hc:(Value.agg (G.e v).toArray).cells=(G.e v).toArray:=rfl;have hs:(G.e v).toArray.size=G.sz:=by simp[G.len]
  simp only[hc];have hn:¬(decide ((G.e v).toArray.size≠G.sz)||decide (k*G.sz+(G.e v).toArray.size>cells.size))=true:=by
   rw[Bool.or_eq_true,decide_eq_true_eq,decide_eq_true_eq];rintro (h1|h1)
   ·exact h1 hs
   ·omega
  rw[if_neg hn];have e:=foldl_sets (k*G.sz) (G.e v) 0 cells (by rw[G.len];omega);have e0:(G.e v).toArray.zipIdx.foldl (λ(cs:Array Value) (x:Value×Nat)=>cs.setIfInBounds (k*G.sz+x.2) x.1) cells=((G.e v).zipIdx 0).foldl (λ(cs:Array Value) (x:Value×Nat)=>cs.setIfInBounds (k*G.sz+x.2) x.1) cells:=by
   rw[<-Array.foldl_toList]
   simp
  rw[e0]
  generalize ((G.e v).zipIdx 0).foldl (λ(cs:Array Value) (x:Value×Nat)=>cs.setIfInBounds (k*G.sz+x.2) x.1) cells=cs' at e ⊢
  have hsz:cs'.size=cells.size:=by
   rw[<-Array.length_toList,e]
   simp[G.len]
   omega
  rw[ih (k+1) cs' (by rw[hsz,h,hk];omega),e,hk];have e3:(cells.toList.take (k*G.sz+0)++G.e v++cells.toList.drop (k*G.sz+0+(G.e v).length)).take (k*G.sz+G.sz)=cells.toList.take (k*G.sz)++G.e v:=by
   rw[List.take_append_of_le_length (by simp[G.len];omega),List.take_of_length_le (by simp[G.len];omega),Nat.add_zero]
  rw[e3,List.append_assoc,List.flatMap_cons]
section
variable
 {d:Nat}{t e tr:TypeId}{pos:String}{after:Array Edge}{α:Type}{G:Flat α}
theorem O.litG {len:Nat}{parts:List (Nat×Operand)}{ie:TypeInfo}{z:Value}(vs:List α)(hu:P.underlying t=some (.slice e))(hie:P.info? e=some ie)(hsz:ie.size=G.sz)(hz:ie.zero=some z)(hl:vs.length=len)(hsmall:¬len*G.sz>2^24)(hpos:¬len*G.sz=0)
 (hvs:parts.map (λx=>(x.1,ev n f x.2))=(List.range' 0 vs.length).zip (vs.map λx=>.agg (G.e x).toArray))
 (h:∀b w',w.heap.size<=b->Own0 w' b e (vs.flatMap G.e)->Le w w'->O P n ops rest N Z (upd f d (.slice (some ⟨b,0,none⟩) len len)) w'):
 O P n ops (ZO d (.buildSlice t len parts.toArray) tr pos after::rest) N Z f w:=by
 refine O.lit (cells:=(vs.flatMap G.e).toArray) hu hie hz (by rw[hsz];exact hsmall) (by rw[hsz];exact hpos) hvs ?_ (by simpa using h);rw[hsz,fill_flat G vs 0 _ (by simp[hl])]
 simp
end
theorem Sl.litG {α:Type}{G:Flat α}{w:World}{b n:Nat}{ty:TypeId}{vs:List α}(h:Own w b ty (vs.flatMap G.e))(hn:vs.length=n)(hm:n<=maxLen):Sl G.enc w (λk=>k=b) (.slice (some ⟨b,0,none⟩) n n) vs:=by
 subst hn;exact Sl.of_own h (by rw[<-G.length,List.take_length]) (Nat.le_refl _) hm (by rw[G.length];exact Nat.le_refl _)
end Go.Pn
end
section
namespace Go.Pn
open Go.RowKit
theorem run_storeCells_own0 {P:Program}{b:Nat}{ty:TypeId}:∀(vs:List Value) (o i:Nat) (cs:List Value) (w:World),Own0 w b ty cs->o+i+vs.length<=cs.length->(∀v∈vs,v.oneCell'=true)->
 ∃w',(storeCells ⟨b,o,none⟩ vs i).run P w=.ok () w'∧Own0 w' b ty (cs.take (o+i)++vs++cs.drop (o+i+vs.length))∧Ext (λk=>k=b) w w'∧w'.heap.size=w.heap.size:=by
 intro vs
 induction vs with
 |nil=>
  intro o i cs w ho _ _;exact ⟨w,rfl,by simpa using ho,Ext.L _ _,rfl⟩
 |cons v vs ih=>
  intro o i cs w ho hl h1;have hl':o+i<cs.length:=by simp at hl;omega
  have hv:=h1 v (by simp);have hc:=ho.own.cell (i:=o+i) (v:=cs[o+i]) (by simp);have hf:=ho.own.free hl';have ho':=ho.set (o+i) v;obtain ⟨w',hr,ho2,he,hs⟩:=ih o (i+1) (cs.set (o+i) v) _ ho' (by simp at hl ⊢;omega) (λu hu=>h1 u (by simp[hu]));refine ⟨w',?_,?_,(Ext.set w ⟨b,o+i,none⟩ v).trans he,by rw[hs];simp⟩
  ·have e:storeCells ⟨b,o,none⟩ (v::vs) i=(do store ((⟨b,o,none⟩:Addr).add i) v;storeCells ⟨b,o,none⟩ vs (i+1)):=rfl
   rw[e,Sem.run_bind,Addr.add_none];have hst:(store ⟨b,o+i,none⟩ v).run P w=.ok () (w.setCell ⟨b,o+i,none⟩ v):=by
    have:=run_store P w ⟨b,o+i,none⟩ v .plain hv
    simpa[hc,hf] using this
   rw[hst,Result.andThen_ok,hr]
  ·have e1:(cs.set (o+i) v).take (o+(i+1))=cs.take (o+i)++[v]:=by
    rw[show o+(i+1)=o+i+1 by omega,List.take_succ_eq_append_getElem (by simpa using hl')];rw[List.take_set,List.set_eq_of_length_le (by simp;omega)]
    simp
   have e2:(cs.set (o+i) v).drop (o+(i+1)+vs.length)=cs.drop (o+i+(vs.length+1)):=by
    rw[List.drop_set_of_lt (by omega)]
    congr 1
    omega
   rw[e1,e2] at ho2
   simpa using ho2
section
variable {α:Type}{G:Flat α}{ty:TypeId}{B:Nat}{w:World}{g cap:Nat}{xs:List α}
theorem Flat.take (G:Flat α)(xs:List α)(i:Nat):(xs.flatMap G.e).take (i*G.sz)=(xs.take i).flatMap G.e:=by
 induction xs generalizing i with
 |nil=>simp
 |cons x xs ih=>
  cases i with
  |zero=>simp
  |succ i=>
   rw[List.flatMap_cons,List.take_succ_cons,List.flatMap_cons,<-ih i,Nat.add_mul,Nat.one_mul,Nat.add_comm];rw[show G.sz+i*G.sz=(G.e x).length+i*G.sz by rw[G.len],List.take_length_add_append]
theorem Flat.drop (G:Flat α)(xs:List α)(i:Nat):(xs.flatMap G.e).drop (i*G.sz)=(xs.drop i).flatMap G.e:=by
 induction xs generalizing i with
 |nil=>simp
 |cons x xs ih=>
  cases i with
  |zero=>simp
  |succ i=>
   rw[List.flatMap_cons,List.drop_succ_cons,<-ih i,Nat.add_mul,Nat.one_mul,Nat.add_comm];rw[show G.sz+i*G.sz=(G.e x).length+i*G.sz by rw[G.len],List.drop_length_add_append]
theorem OwnF.puts (P:Program)(ys:List α)(i:Nat)(h:OwnF G ty B w (.slice (some ⟨g,0,none⟩) xs.length cap) xs)(hi:i+ys.length<=xs.length):
 ∃w',(storeCells ⟨g,i*G.sz,none⟩ (ys.flatMap G.e) 0).run P w=.ok () w'∧OwnF G ty B w' (.slice (some ⟨g,0,none⟩) xs.length cap) (xs.take i++ys++xs.drop (i+ys.length))∧Ext (λk=>k=g) w w'∧w'.heap.size=w.heap.size:=by
 obtain ⟨h0,hm⟩:=h;rcases h0.2 with ⟨h1,_⟩|⟨g',cap',cur,h1,hb,hg,hn,hc,hsz,ht⟩
 ·cases h1
 ·have e1:g=g':=by cases h1;rfl
  have e2:cap=cap':=by cases h1;rfl
  subst e1;subst e2;have hmul:(i+ys.length)*G.sz=i*G.sz+ys.length*G.sz:=by rw[Nat.add_mul]
  have hle:i*G.sz+ys.length*G.sz<=xs.length*G.sz:=by rw[<-hmul];exact Nat.mul_le_mul_right _ hi
  have hle2:xs.length*G.sz<=cap*G.sz:=Nat.mul_le_mul_right _ hn;have h00:Own0 w g ty cur.toList:=by simpa[Own0] using hg
  obtain ⟨w',hr,ho,he,hs⟩:=run_storeCells_own0 (P:=P) (ys.flatMap G.e) (i*G.sz) 0 cur.toList w h00 (by rw[G.length];simp;omega) (G.ones ys);rw[Nat.add_zero,G.length] at ho;have hlen:(xs.take i++ys++xs.drop (i+ys.length)).length=xs.length:=by simp;omega
  refine ⟨w',hr,⟨⟨by rw[G.length],.inr ⟨g,cap,(cur.toList.take (i*G.sz)++ys.flatMap G.e++cur.toList.drop (i*G.sz+ys.length*G.sz)).toArray,by rw[hlen],hb,ho,by rw[hlen];exact hn,hc,?_,?_⟩⟩,by rw[hlen];exact hm⟩,he,hs⟩
  ·simp [G.length]
   omega
  ·rw [hlen]
   simp only[];have q1:(cur.toList.take (i*G.sz))=(xs.take i).flatMap G.e:=by
    rw[<-G.take,<-ht,List.take_take,Nat.min_eq_left (by omega)]
   have q2:(cur.toList.drop (i*G.sz+ys.length*G.sz)).take (xs.length*G.sz-(i*G.sz+ys.length*G.sz))=(xs.drop (i+ys.length)).flatMap G.e:=by
    rw[<-G.drop,<-ht,hmul,List.drop_take]
   have hAB:(cur.toList.take (i*G.sz)++ys.flatMap G.e).length=i*G.sz+ys.length*G.sz:=by
    rw[List.length_append,List.length_take,G.length,Array.length_toList,Nat.min_eq_left (by omega)]
   rw[List.flatMap_append,List.flatMap_append,<-q1,<-q2,List.take_append,List.take_of_length_le (by rw[hAB];exact hle),hAB]
end
section
variable {α:Type}{G:Flat α}{ty:TypeId}{B:Nat}{w:World}{g cap:Nat}{xs:List α}
theorem OwnF.le_cap (h:OwnF G ty B w (.slice (some ⟨g,0,none⟩) xs.length cap) xs):xs.length<=cap:=by
 rcases h.1.2 with ⟨h1,_⟩|⟨g',cap',cur,h1,hb,hg,hn,_⟩
 ·cases h1
 ·have e2:cap=cap':=by cases h1;rfl
  omega
theorem OwnF.part (h:OwnF G ty B w (.slice (some ⟨g,0,none⟩) xs.length cap) xs){k:Nat}(hk:k<=xs.length):Sl G.enc w (λb=>b=g) (.slice (some ⟨g,k*G.sz,none⟩) (xs.length-k) (cap-k)) (xs.drop k):=by
 obtain ⟨h0,hm⟩:=h;rcases h0.2 with ⟨h1,_⟩|⟨g',cap',cur,h1,hb,hg,hn,hc,hsz,ht⟩
 ·cases h1
 ·have e1:g=g':=by cases h1;rfl
  have e2:cap=cap':=by cases h1;rfl
  subst e1;subst e2;have hl:(xs.drop k).length=xs.length-k:=by simp
  have hm1:(cap-k)*G.sz=cap*G.sz-k*G.sz:=by rw[Nat.sub_mul]
  have hm2:k*G.sz<=cap*G.sz:=Nat.mul_le_mul_right _ (by omega);rw[<-hl];have h00:Own w g ty cur.toList:=⟨(0,0),by simpa using hg,.inl rfl⟩
  refine Own.part (G:=G) (ty:=ty) h00 ?_ (by rw[hl];omega) (by omega) (by rw[hm1];simp;omega);rw[hl,<-G.drop,<-ht,List.drop_take,Nat.sub_mul]
theorem OwnF.first (h:OwnF G ty B w (.slice (some ⟨g,0,none⟩) xs.length cap) xs){k:Nat}(hk:k<=xs.length):OwnF G ty B w (.slice (some ⟨g,0,none⟩) k cap) (xs.take k):=by
 obtain ⟨h0,hm⟩:=h;rcases h0.2 with ⟨h1,_⟩|⟨g',cap',cur,h1,hb,hg,hn,hc,hsz,ht⟩
 ·cases h1
 ·have e1:g=g':=by cases h1;rfl
  have e2:cap=cap':=by cases h1;rfl
  subst e1;subst e2;have hl:(xs.take k).length=k:=by simp;omega
  refine ⟨⟨by rw[G.length],.inr ⟨g,cap,cur,by rw[hl],hb,hg,by omega,hc,hsz,?_⟩⟩,by omega⟩;rw[hl,<-G.take,<-ht,List.take_take,Nat.min_eq_left (Nat.mul_le_mul_right _ hk)]
end
section
variable
 {d:Nat}{x y:Operand}{t e ty tr:TypeId}{pos:String}{after:Array Edge}{α:Type}{G:Flat α}{B g cap:Nat}{xs:List α}
theorem O.storeG {i:Nat}(z:α)(hsz:∀w,(sizeOf t).run P w=.ok G.sz w)(hx:ev n f x=.pointer (some ⟨g,i*G.sz,none⟩))(hy:ev n f y=.agg (G.e z).toArray)(ho:OwnF G ty B w (.slice (some ⟨g,0,none⟩) xs.length cap) xs)(hi:i<xs.length)
 (h:∀w',OwnF G ty B w' (.slice (some ⟨g,0,none⟩) xs.length cap) (xs.set i z)->Ext (λk=>k=g) w w'->w'.heap.size=w.heap.size->O P n ops rest N Z f w'):
 O P n ops ({dst:=.none,op:=.store t x y,type:=tr,pos:=pos,after:=after,guard:=.none}::rest) N Z f w:=by
 obtain ⟨w',hr,ho',he,hs⟩:=ho.puts P [z] i (by simp;omega);have hset:xs.take i++[z]++xs.drop (i+[z].length)=xs.set i z:=by
  rw[List.set_eq_take_append_cons_drop,if_pos hi]
  simp
 rw[hset] at ho';refine O.act rfl rfl ?_ (h w' ho' he hs);have h3:execOp (ev n f) {dst:=.none,op:=.store t x y,type:=tr,pos:=pos,after:=after,guard:=.none}=(do Instr.storeAt t (ev n f x) (ev n f y);pure .skip):=rfl;rw[h3,Sem.run_bind,hx,hy];have hr2:(storeCells ⟨g,i*G.sz,none⟩ (G.e z) 0).run P w=.ok () w':=by simpa using hr
 have h4:(Instr.storeAt t (.pointer (some ⟨g,i*G.sz,none⟩)) (.agg (G.e z).toArray)).run P w=.ok () w':=by
  simp[Instr.storeAt,Instr.sureAddr,storeVar,hsz,Value.cells,G.len,hr2]
 rw[h4]
 rfl
theorem O.clearG {k:Nat}{z:Value}{zx:α}(hu:P.underlying t=some (.slice e))(hz:∀w,(zeroValue e).run P w=.ok z w)(hzx:z.cells.toList=G.e zx)(hx:ev n f x=.slice (some ⟨g,k*G.sz,none⟩) (xs.length-k) (cap-k))(ho:OwnF G ty B w (.slice (some ⟨g,0,none⟩) xs.length cap) xs)(hk:k<xs.length)
 (h:∀w',OwnF G ty B w' (.slice (some ⟨g,0,none⟩) xs.length cap) (xs.take k++List.replicate (xs.length-k) zx)->Ext (λk=>k=g) w w'->w'.heap.size=w.heap.size->O P n ops rest N Z f w'):
 O P n ops ({dst:=.none,op:=.call {callee:=.builtin .clear,args:=[x].toArray,argTypes:=[t].toArray},type:=tr,pos:=pos,after:=after,guard:=.none}::rest) N Z f w:=by
 obtain ⟨w',hr,ho',he,hs⟩:=ho.puts P (List.replicate (xs.length-k) zx) k (by simp;omega);have hd:xs.drop (k+(List.replicate (xs.length-k) zx).length)=[]:=List.drop_eq_nil_of_le (by simp;omega);rw[hd,List.append_nil] at ho';refine O.valN rfl rfl (v:=.tuple #[]) ?_ (h w' ho' he hs);have hcells:(Builtin.zeroCells z.cells (xs.length-k)).toList=(List.replicate (xs.length-k) zx).flatMap G.e:=by
  have hzsz:z.cells.size=G.sz:=by rw[<-Array.length_toList,hzx,G.len]
  apply List.ext_getElem?
  intro j
  by_cases hj:j<(xs.length-k)*G.sz
  ·have hlt:j<((List.replicate (xs.length-k) zx).flatMap G.e).length:=by rw[G.length];simpa using hj
   obtain ⟨hi,hu⟩:=G.get (List.replicate (xs.length-k) zx) (List.getElem?_eq_getElem hlt);rw[List.getElem?_eq_getElem hlt,<-hu];have hjm:j%G.sz<z.cells.size:=by rw[hzsz];exact Nat.mod_lt _ G.pos
   simp only[Builtin.zeroCells,Array.toList_map,Array.toList_range,List.getElem?_map];rw[hzsz,List.getElem?_range hj];simp only[Option.map_some,List.getElem_replicate];rw[getElem!_pos z.cells _ hjm,<-hzx,Array.getElem?_toList,Array.getElem?_eq_getElem hjm]
  ·rw [List.getElem?_eq_none (by simp[Builtin.zeroCells,hzsz];omega),List.getElem?_eq_none (by rw[G.length];simp;omega)]
 have h4:(Builtin.clear_ #[t] tr #[.slice (some ⟨g,k*G.sz,none⟩) (xs.length-k) (cap-k)]).run P w=.ok (.tuple #[]) w':=by
  have hne:xs.length-k≠0:=by omega
  obtain ⟨m,hm⟩:∃m,xs.length-k=m+1:=⟨xs.length-k-1,by omega⟩
  rw[hm] at hcells hr ⊢;unfold Builtin.clear_
  simp[run_underlying hu,hz,hcells,hr]
 have h3:(execOp (ev n f) {dst:=.none,op:=.call {callee:=.builtin .clear,args:=[x].toArray,argTypes:=[t].toArray},type:=tr,pos:=pos,after:=after,guard:=.none}).run P w=((Builtin.clear_ #[t] tr #[ev n f x]).run P w).andThen (λv w=>.ok (.value v) w):=by
  simp[execOp,resolve,invoke,builtin]
 rw[h3,hx,h4]
 rfl
theorem O.subHi {s m k:Nat}{kk:IntKind}{lo:Operand}(ht:P.underlying t=some (.slice e))(hsz:∀w,(sizeOf e).run P w=.ok s w)(hx:ev n f x=.slice (some ⟨g,0,none⟩) m cap)(hlo:ev n f lo=.int kk (k:Int))(h1:k<m)(h2:m<=cap)
 (h:O P n ops rest N Z (upd f d (.slice (some ⟨g,k*s,none⟩) (m-k) (cap-k))) w):
 O P n ops (ZO d (.slice t x (some lo) .none .none) tr pos after::rest) N Z f w:=by
 refine O.val rfl rfl ?_ h;have h3:execOp (ev n f) (ZO d (.slice t x (some lo) .none .none) tr pos after)=(do pure (.value (<-Instr.sliceAt t (ev n f x) (some (ev n f lo)) .none .none))):=rfl;have hbl:(Instr.sliceBound (.int kk (k:Int)) m .sliceB).run P w=.ok k w:=by
  have:(k:Int)<=m:=by omega
  simp[Instr.sliceBound,asIntOf,this]
 have h4:(Instr.sliceAt t (.slice (some ⟨g,0,none⟩) m cap) (some (.int kk (k:Int))) .none .none).run P w=.ok (.slice (some ⟨g,k*s,none⟩) (m-k) (cap-k)) w:=by
  unfold Instr.sliceAt;rw[Sem.run_bind,run_underlying ht,Result.andThen_ok];simp only[];unfold Instr.slice;rw[Sem.run_bind,run_underlying ht,Result.andThen_ok];have hne:¬cap=k:=by omega
  simp[Instr.sliceBounds,hsz,hbl,hne,Addr.add_none]
 rw[h3,Sem.run_bind,hx,hlo,h4]
 rfl
theorem O.subLo {s m k:Nat}{kk:IntKind}{hi:Operand}(ht:P.underlying t=some (.slice e))(hsz:∀w,(sizeOf e).run P w=.ok s w)(hx:ev n f x=.slice (some ⟨g,0,none⟩) m cap)(hhi:ev n f hi=.int kk (k:Int))(h1:k<=cap)(h2:cap≠0)
 (h:O P n ops rest N Z (upd f d (.slice (some ⟨g,0,none⟩) k cap)) w):
 O P n ops (ZO d (.slice t x .none (some hi) .none) tr pos after::rest) N Z f w:=by
 refine O.val rfl rfl ?_ h;have h3:execOp (ev n f) (ZO d (.slice t x .none (some hi) .none) tr pos after)=(do pure (.value (<-Instr.sliceAt t (ev n f x) .none (some (ev n f hi)) .none))):=rfl;have hbl:(Instr.sliceBound (.int kk (k:Int)) cap .sliceAcap).run P w=.ok k w:=by
  have:(k:Int)<=cap:=by omega
  simp[Instr.sliceBound,asIntOf,this]
 have h4:(Instr.sliceAt t (.slice (some ⟨g,0,none⟩) m cap) .none (some (.int kk (k:Int))) .none).run P w=.ok (.slice (some ⟨g,0,none⟩) k cap) w:=by
  unfold Instr.sliceAt;rw[Sem.run_bind,run_underlying ht,Result.andThen_ok];simp only[];unfold Instr.slice;rw[Sem.run_bind,run_underlying ht,Result.andThen_ok]
  simp[Instr.sliceBounds,hsz,hbl,h2,Addr.add_none]
 rw[h3,Sem.run_bind,hx,hhi,h4]
 rfl
end
section
variable
 {d:Nat}{x y:Operand}{t t' tr:TypeId}{pos:String}{after:Array Edge}
end
theorem Outs.three {P:Program}{fn:Func}{n:Nat}{Post:Value->World->Prop}{f:Val}{w:World}{t u s:Nat}{v v' v'':Value}(hr:fn.results=#[.tmp t,.tmp u,.tmp s])(hv:ev n f (.tmp t)=v)(hv':ev n f (.tmp u)=v')(hv'':ev n f (.tmp s)=v'')(h:Post (.tuple #[v,v',v'']) w):Outs P fn n Post f w:=
 ⟨_,by
  have e1:(Fr n f).tmps.getD t undef=v:=(getD_Fr n f t).trans hv;have e2:(Fr n f).tmps.getD u undef=v':=(getD_Fr n f u).trans hv';have e3:(Fr n f).tmps.getD s undef=v'':=(getD_Fr n f s).trans hv''
  simp[results,hr,-Array.getD_eq_getD_getElem?,e1,e2,e3],h⟩
end Go.Pn
end
section
namespace Go.Pn
open Go.RowKit
section
variable
 {d:Nat}{x:Operand}{t tr:TypeId}{pos:String}{after:Array Edge}
theorem O.makeF {g:Fn}{first cap:List Operand}{v1 v2:List Value}(h1:first.map (ev n f)=v1)(h2:cap.map (ev n f)=v2)(h:O P n ops rest N Z (upd f d (.func g v1.toArray v2.toArray)) w):
 O P n ops (ZO d (.makeFunc g first.toArray cap.toArray) tr pos after::rest) N Z f w:=by
 refine O.val rfl rfl ?_ h;have h3:execOp (ev n f) (ZO d (.makeFunc g first.toArray cap.toArray) tr pos after)=(do pure (.value (<-Instr.makeFunc g (first.toArray.map (ev n f)) (cap.toArray.map (ev n f))))):=rfl;rw[h3,<-h1,<-h2]
 simp[Instr.makeFunc]
theorem O.callV {g:Nat}{cs:List Value}{xs:List Operand}{vs:List Value}{ats:Array TypeId}{Post:Value->World->Prop}
 (hk:∀args w,(callFunc g args).run P w=.ok (.enter g args) w)(hx:ev n f x=.func (.func g) #[] cs.toArray)(hxs:xs.map (ev n f)=vs)
 (hc:Ret P g (vs++cs).toArray w Post)(h:∀v w',Post v w'->O P n ops rest N Z (upd f d v) w'):
 O P n ops (ZO d (.call {callee:=.value x,args:=xs.toArray,argTypes:=ats}) tr pos after::rest) N Z f w:=by
 subst hxs;unfold O at h ⊢;refine wpList_plain rfl λK hK=>?_
 have hrun:(execOp (ev n f) (ZO d (.call {callee:=.value x,args:=xs.toArray,argTypes:=ats}) tr pos after)).run P w=.ok (.enter g ((xs.map (ev n f))++cs).toArray) w:=by
  simp[execOp,resolve,Deferred.ofValue,invoke,hx,hk]
 simp only[Oper.wp,eval_Fr,hrun,Oper.upon_enter];refine Calls.mono hc ?_;intro e w' he;cases e with
 |returned v=>show K ((Fr n f).put (some d) v) w';rw[put_Fr];exact hK _ _ (h v w' he)
 |panicked ch=>exact he.elim
 |outgrown=>exact he.elim
end
theorem Outs.cell1 {P:Program}{fn:Func}{n:Nat}{Post:Value->World->Prop}{f:Val}{w:World}{t b:Nat}{ty ty':TypeId}{v:Value}(hr:fn.results=#[.cell t ty])(hag:∀w,(isAgg ty).run P w=.ok false w)
 (hv:ev n f (.tmp t)=.pointer (some ⟨b,0,Option.none⟩))(ho:Own w b ty' [v])(h:Post v w):Outs P fn n Post f w:=by
 refine ⟨_,?_,h⟩;have hg:(Fr n f).tmps.getD t undef=.pointer (some ⟨b,0,Option.none⟩):=(getD_Fr n f t).trans hv;have hc:=ho.cell (i:=0) (v:=v) rfl
 simp[results,hr,-Array.getD_eq_getD_getElem?,hg,asAddr,loadVar,hag,hc]
theorem OwnF.one {α:Type}{G:Flat α}{ty:TypeId}{B:Nat}{w:World}{v:Value}{xs:List α}(h:OwnF G ty B w v xs):v.oneCell'=true:=by
 rcases h.1.2 with ⟨rfl,_⟩|⟨g,cap,cur,rfl,_⟩<;>rfl
end Go.Pn
end
section
namespace Go.Pn
section
variable {P:Program}{n:Nat}{c:Code}{N:Val->World->Prop}{X:Nat->Val->World->Prop}{R:Val->World->Prop}{Z:List PanicEntry->World->Prop}{f:Val}{w wB:World}
 {l:List Oper}{pos:String}{after:Array Edge}
theorem C.join (Q:Val->World->Val->World->Prop)(h1:C P n c (Q f w) X R Z f w)(h2:∀f' w',Q f w f' w'->N f' w'):C P n c N X R Z f w:=h1.mono h2
def DStep (P:Program)(n:Nat)(l:List Oper)(listed:Array Bool)(N:Val->World->Prop)(Z:List PanicEntry->World->Prop)(wB:World)(fuel:Nat)(f:Val)(w:World)(j:Nat):Prop:=
 wpOp P l.toArray (Q0 n N Z) j (λa' w'=>Le wB w'∧wpAnyH P .any l.toArray (Q0 n N Z) (λw'=>Le wB w') fuel (listed.setIfInBounds j true) a' w') (Fr n f) w
def allP (p:Nat->Prop):List Nat->Prop
 |[]=>True
 |i::r=>p i∧allP p r
theorem allP_mem {p:Nat->Prop}:∀{l:List Nat},allP p l->∀i∈l,p i
 |[],_,i,h=>by cases h
 |j::r,h,i,hi=>by
  rcases List.mem_cons.1 hi with rfl|hi
  ·exact h.1
  ·exact allP_mem h.2 i hi
theorem D.many {listed:Array Bool}{fuel:Nat}(is:List Nat)(hr:Region.ready .any l.toArray listed=is)(hne:is≠[])(h:allP (DStep P n l listed N Z wB fuel f w) is):D P n l listed N Z wB (fuel+1) f w:=by
 subst hr;exact wpAnyH_all rfl hne (allP_mem h)
theorem D.stepU {listed:Array Bool}{fuel j:Nat}{o:Oper}(hi:l[j]? =some o)(hg:o.guard=.none)
 (hO:O P n [o] [o] (λf' w'=>Le wB w'∧D P n l (listed.setIfInBounds j true) N Z wB fuel f' w') Z f w):DStep P n l listed N Z wB fuel f w j:=D.step hi hg hO
end
end Go.Pn
end
section
namespace Go.Pn
open Go.RowKit
theorem Flat.set1 {α:Type}(G:Flat α){off:Nat}{z:α}{u:Value}:∀(xs:List α) (i:Nat) (h:i<xs.length),off<G.sz->G.e z=(G.e xs[i]).set off u->(xs.flatMap G.e).set (i*G.sz+off) u=(xs.set i z).flatMap G.e
 |[],i,h,_,_=>by simp at h
 |x::xs,0,h,ho,hz=>by
  simp only[List.getElem_cons_zero] at hz;rw[List.flatMap_cons,List.set_cons_zero,List.flatMap_cons,Nat.zero_mul,Nat.zero_add,List.set_append_left _ _ (by rw[G.len];exact ho),hz]
 |x::xs,i+1,h,ho,hz=>by
  simp only[List.getElem_cons_succ] at hz;have ih:=Flat.set1 G (off:=off) (z:=z) (u:=u) xs i (by simpa using h) ho hz;rw[List.flatMap_cons,List.set_cons_succ,List.flatMap_cons,List.set_append_right _ _ (by rw[G.len,Nat.add_mul];omega),G.len,<-ih]
  congr 2
  rw[Nat.add_mul]
  omega
section
variable {α:Type}{G:Flat α}{ty:TypeId}{B:Nat}{w:World}{g cap:Nat}{xs:List α}
theorem OwnF.put1 {i off:Nat}{z:α}{u:Value}(h:OwnF G ty B w (.slice (some ⟨g,0,none⟩) xs.length cap) xs)(hi:i<xs.length)(ho:off<G.sz)(hz:G.e z=(G.e xs[i]).set off u):
 OwnF G ty B (w.setCell ⟨g,i*G.sz+off,none⟩ u) (.slice (some ⟨g,0,none⟩) xs.length cap) (xs.set i z):=by
 obtain ⟨h0,hm⟩:=h;refine ⟨⟨by rw[G.length],?_⟩,by rw[List.length_set];exact hm⟩;rcases h0.2 with ⟨h1,_⟩|⟨g',cap',cur,h1,hb,hg,hn,hc,hsz,ht⟩
 ·cases h1
 ·have e1:g=g':=by cases h1;rfl
  have e2:cap=cap':=by cases h1;rfl
  subst e1;subst e2;refine .inr ⟨g,cap,(cur.toList.set (i*G.sz+off) u).toArray,by rw[List.length_set],hb,?_,by rw[List.length_set];exact hn,hc,by simpa using hsz,?_⟩
  ·have h5:=heap_set w g (i*G.sz+off) u (cs:=cur.toList) (ty:=ty) (fr:=(0,0)) (by simpa using hg)
   exact h5
  ·rw [List.length_set,<-G.set1 xs i hi ho hz,<-ht]
   simp only[List.take_set]
end
section
variable
 {d:Nat}{x y:Operand}{t tr ty:TypeId}{pos:String}{after:Array Edge}{α:Type}
theorem O.storeC {G:Flat α}{B g cap i off k:Nat}{xs:List α}(z:α){u:Value}(hk:k=i*G.sz+off)(hsz:∀w,(sizeOf t).run P w=.ok 1 w)(hx:ev n f x=.pointer (some ⟨g,k,none⟩))(hy:ev n f y=u)(h1:u.oneCell'=true)
 (ho:OwnF G ty B w (.slice (some ⟨g,0,none⟩) xs.length cap) xs)(hi:i<xs.length)(hof:off<G.sz)(hz:G.e z=(G.e xs[i]).set off u)
 (h:∀w',OwnF G ty B w' (.slice (some ⟨g,0,none⟩) xs.length cap) (xs.set i z)->Ext (λk=>k=g) w w'->w'.heap.size=w.heap.size->O P n ops rest N Z f w'):
 O P n ops ({dst:=.none,op:=.store t x y,type:=tr,pos:=pos,after:=after,guard:=.none}::rest) N Z f w:=by
 subst hk;obtain ⟨g',cap',cs,hv,hown,hcs,hn,_,hc3,_⟩:=ho.block (by omega);have e1:g=g':=by cases hv;rfl
 have e2:cap=cap':=by cases hv;rfl
 subst e1;subst e2;refine O.act rfl rfl ?_ (h (w.setCell ⟨g,i*G.sz+off,none⟩ u) (ho.put1 hi hof hz) (Ext.set w ⟨g,i*G.sz+off,none⟩ u) (by simp));have h3:execOp (ev n f) {dst:=.none,op:=.store t x y,type:=tr,pos:=pos,after:=after,guard:=.none}=(do Instr.storeAt t (ev n f x) (ev n f y);pure .skip):=rfl;rw[h3,Sem.run_bind,hx,hy];have hcells:u.cells=#[u]:=by cases u<;>first|rfl|simp[Value.oneCell'] at h1
 have hlt:i*G.sz+off<cs.length:=by
  have q1:(i+1)*G.sz<=cap*G.sz:=Nat.mul_le_mul_right _ (by omega);rw[Nat.add_mul] at q1
  omega
 have hc:=hown.cell (i:=i*G.sz+off) (v:=cs[i*G.sz+off]) (by simp);have hf:=hown.free hlt;have h4:(Instr.storeAt t (.pointer (some ⟨g,i*G.sz+off,none⟩)) u).run P w=.ok () (w.setCell ⟨g,i*G.sz+off,none⟩ u):=by
  simp[Instr.storeAt,Instr.sureAddr,storeVar,hsz,hcells,storeCells,Addr.add,run_store P w ⟨g,i*G.sz+off,none⟩ u .plain h1,hc,hf]
 rw[h4]
 rfl
theorem At.cellAt {E:Enc α}{w:World}{F:Nat->Prop}{a:Addr}{z:α}(ha:At E w F a z):∃cs,E.rep w F cs z∧∀i v,cs[i]? =some v->w.cell? (a.add i)=some v:=by
 obtain ⟨b,off,cur,ty,fr,rfl,hF,hb,hs,hr⟩:=ha;refine ⟨_,hr,λi v hv=>?_⟩;rw[Addr.add_none];rw[List.getElem?_take] at hv
 split at hv
 ·rw [List.getElem?_drop] at hv
  simp only[World.cell?,hb,Option.isSome_none,Bool.false_eq_true,if_false]
  simpa using hv
 ·cases hv
theorem O.fieldAt {fields:Array Field}{fd:Field}{k s:Nat}{a:Addr}(ht:P.underlying t=some (.struct fields))(hf:fields[k]? =some fd)(hs:∀w,(sizeOf fd.type).run P w=.ok s w)(h0:s≠0)(hx:ev n f x=.pointer (some a))
 (h:O P n ops rest N Z (upd f d (.pointer (some (a.add fd.offset)))) w):O P n ops (ZO d (.fieldAddr t x k) tr pos after::rest) N Z f w:=by
 refine O.val rfl rfl ?_ h;have h3:execOp (ev n f) (ZO d (.fieldAddr t x k) tr pos after)=(do pure (.value (<-Instr.fieldAt t (ev n f x) k))):=rfl;rw[h3,Sem.run_bind,hx];have h4:(Instr.fieldAt t (.pointer (some a)) k).run P w=.ok (.pointer (some (a.add fd.offset))) w:=by
  unfold Instr.fieldAt;rw[Sem.run_bind,run_underlying ht,Result.andThen_ok]
  simp[hf,Instr.sureAddr,fieldPlace,hs,h0]
 rw[h4]
 rfl
theorem O.ft {fields:Array Field}{fd:Field}{k s:Nat}{a:Addr}(ht:P.underlying t=some (.struct fields))(hf:fields[k]? =some fd)(hs:∀w,(sizeOf fd.type).run P w=.ok s w)(hx:ev n f x=.pointer (some a))
 (h:O P n ops rest N Z (upd f d (.pointer (some (a.add fd.offset)))) w)(h0:s≠0:=by decide):O P n ops (ZO d (.fieldAddr t x k) tr pos after::rest) N Z f w:=O.fieldAt ht hf hs h0 hx h
theorem O.loadAtC {E:Enc α}{F:Nat->Prop}{a:Addr}{z:α}{off:Nat}(hag:∀w,(isAgg t).run P w=.ok false w)(hoff:off<E.sz)(hx:ev n f x=.pointer (some (a.add off)))(ha:At E w F a z)
 (h:∀cs u,E.rep w F cs z->cs[off]? =some u->O P n ops rest N Z (upd f d u) w):
 O P n ops (ZO d (.load t x) tr pos after::rest) N Z f w:=by
 obtain ⟨cs,hr,hc⟩:=ha.cellAt;have hl:off<cs.length:=by rw[E.len hr];exact hoff
 have hu:=hc off cs[off] (by simp[hl]);refine O.val rfl rfl ?_ (h cs cs[off] hr (by simp[hl]));have h3:execOp (ev n f) (ZO d (.load t x) tr pos after)=(do pure (.value (<-Instr.loadAt t (ev n f x)))):=rfl;rw[h3,Sem.run_bind,hx];have h4:(Instr.loadAt t (.pointer (some (a.add off)))).run P w=.ok cs[off] w:=by
  simp[Instr.loadAt,Instr.sureAddr,loadVar,hag,hu]
 rw[h4]
 rfl
theorem O.loadAtF {G:Flat α}{F:Nat->Prop}{a:Addr}{z:α}{off:Nat}{u:Value}(hag:∀w,(isAgg t).run P w=.ok false w)(hu:(G.e z)[off]? =some u)(hx:ev n f x=.pointer (some (a.add off)))(ha:At G.enc w F a z)
 (h:O P n ops rest N Z (upd f d u) w):O P n ops (ZO d (.load t x) tr pos after::rest) N Z f w:=by
 have hoff:off<G.enc.sz:=by
  have:=(List.getElem?_eq_some_iff.1 hu).1;rw[G.len] at this;exact this
 refine O.loadAtC hag hoff hx ha λcs u' hr hu'=>?_
 have e:cs=G.e z:=hr;subst e;rw[hu] at hu';cases hu';exact h
end
end Go.Pn
end
section
namespace Go.Pn
open Go.RowKit
def Pred {α:Type}(P:Program)(M:Nat->Prop)(w:World)(v:Value)(arg:α->Value)(p:α->Bool):Prop:=
 ∃(g:Nat) (cs:List Value),v=.func (.func g) #[] cs.toArray∧(∀args w,(callFunc g args).run P w=.ok (.enter g args) w)∧
  ∀x w',Ext M w w'->Ret P g (arg x::cs).toArray w' (λv w''=>v=.bool (p x)∧Le w' w'')
section
variable {α:Type}{P:Program}{M:Nat->Prop}{w w':World}{v:Value}{arg:α->Value}{p:α->Bool}
theorem Pred.kM {M':Nat->Prop}(h:Pred P M w v arg p)(e:Ext M' w w')(hM:∀k,M' k->M k):Pred P M w' v arg p:=by
 obtain ⟨g,cs,h1,h2,h3⟩:=h;exact ⟨g,cs,h1,h2,λx w'' e'=>h3 x w'' (Ext.T (e.mono λk _ h=>hM k h) e')⟩
theorem Pred.weak {M':Nat->Prop}(h:Pred P M w v arg p)(hM:∀k,M' k->M k):Pred P M' w v arg p:=by
 obtain ⟨g,cs,h1,h2,h3⟩:=h;exact ⟨g,cs,h1,h2,λx w'' e'=>h3 x w'' (e'.mono λk _ h=>hM k h)⟩
theorem Pred.L (h:Pred P M w v arg p)(e:Le w w'):Pred P M w' v arg p:=h.kM e λ_ h=>h.elim
end
section
variable
 {d:Nat}{x y:Operand}{t tr ty:TypeId}{pos:String}{after:Array Edge}
theorem O.callP {α:Type}{M:Nat->Prop}{v:Value}{arg:α->Value}{p:α->Bool}{ats:Array TypeId}(z:α)(hp:Pred P M w v arg p)(hx:ev n f x=v)(hy:ev n f y=arg z)(h:∀w',Le w w'->O P n ops rest N Z (upd f d (.bool (p z))) w'):
 O P n ops (ZO d (.call {callee:=.value x,args:=[y].toArray,argTypes:=ats}) tr pos after::rest) N Z f w:=by
 obtain ⟨g,cs,rfl,hk,hr⟩:=hp;exact O.callV (vs:=[arg z]) hk hx (by simp[hy]) (hr z w (Ext.L _ _)) λv w' h'=>by obtain ⟨rfl,e⟩:=h';exact h w' e
theorem run_loadCells_at {α:Type}{E:Enc α}{w:World}{F:Nat->Prop}{a:Addr}{z:α}(ha:At E w F a z):∃cs,E.rep w F cs z∧(loadCells a E.sz).run P w=.ok cs.toArray w:=by
 obtain ⟨cs,hr,hc⟩:=ha.cellAt;refine ⟨cs,hr,?_⟩;have h:=run_loadCells_list (P:=P) w a cs λj v hj=>hc j v hj
 rwa [E.len hr] at h
theorem O.loadE {α:Type}{E:Enc α}{F:Nat->Prop}{a:Addr}{z:α}{s:Nat}(hag:∀w,(isAgg t).run P w=.ok true w)(hs:∀w,(sizeOf t).run P w=.ok s w)(hE:E.sz=s)(hx:ev n f x=.pointer (some a))(ha:At E w F a z)
 (h:∀cs,E.rep w F cs z->O P n ops rest N Z (upd f d (.agg cs.toArray)) w):O P n ops (ZO d (.load t x) tr pos after::rest) N Z f w:=by
 subst hE;obtain ⟨cs,hr,hl⟩:=run_loadCells_at (P:=P) ha;refine O.val rfl rfl ?_ (h cs hr);have h3:execOp (ev n f) (ZO d (.load t x) tr pos after)=(do pure (.value (<-Instr.loadAt t (ev n f x)))):=rfl;rw[h3,Sem.run_bind,hx];have h4:(Instr.loadAt t (.pointer (some a))).run P w=.ok (.agg cs.toArray) w:=by
  simp[Instr.loadAt,Instr.sureAddr,loadVar,hag,hs,hl]
 rw[h4]
 rfl
theorem run_eql_nilP {e:TypeId}{a:Addr}(ht:P.underlying t=some (.pointer e)):(Op.equal t (.pointer (some a)) (.pointer none)).run P w=.ok false w:=by
 unfold Op.equal Op.maxDepth;rw[Op.equalIn,Sem.run_bind,run_underlying ht]
 rfl
theorem O.neqP0 {e:TypeId}{a:Addr}(ht:P.underlying t=some (.pointer e))(hx:ev n f x=.pointer (some a)){t':TypeId}(h:O P n ops rest N Z (upd f d (.bool true)) w):
 O P n ops (ZO d (.binOp .neq t x (.const (.pointer none)) t') tr pos after::rest) N Z f w:=
 O.val rfl rfl (by
  refine run_bin hx (y:=.const (.pointer none)) rfl rfl ?_ _ _;have h2:binOp .neq t (.pointer (some a)) (.pointer none)=(do pure (.bool (!(<-Op.equal t (.pointer (some a)) (.pointer none))))):=rfl;show Sem.run P (binOp .neq t (.pointer (some a)) (.pointer none)) w=_;rw[h2,Sem.run_bind,run_eql_nilP ht]
  rfl) h
theorem O.eqlP0 {e:TypeId}{a:Addr}(ht:P.underlying t=some (.pointer e))(hx:ev n f x=.pointer (some a)){t':TypeId}(h:O P n ops rest N Z (upd f d (.bool false)) w):
 O P n ops (ZO d (.binOp .eql t x (.const (.pointer none)) t') tr pos after::rest) N Z f w:=
 O.val rfl rfl (by
  refine run_bin hx (y:=.const (.pointer none)) rfl rfl ?_ _ _;have h2:binOp .eql t (.pointer (some a)) (.pointer none)=(do pure (.bool (<-Op.equal t (.pointer (some a)) (.pointer none)))):=rfl;show Sem.run P (binOp .eql t (.pointer (some a)) (.pointer none)) w=_;rw[h2,Sem.run_bind,run_eql_nilP ht]
  rfl) h
end
def Wr (ty te:TypeId)(w:World)(bw g:Nat)(xs:List UInt8):Prop:=
 ∃v,Own w bw ty [v]∧OwnF byteF te 0 w v xs∧(∀k,bk v k->k=g)∧(∀k,bk v k->k≠bw)∧g<w.heap.size
section
variable {ty te:TypeId}{w w':World}{bw g:Nat}{xs:List UInt8}
theorem Wr.kM {M:Nat->Prop}(h:Wr ty te w bw g xs)(e:Ext M w w')(hM:∀k,(k=bw∨k=g)->¬M k):Wr ty te w' bw g xs:=by
 obtain ⟨v,h1,h2,h3,h4,h5⟩:=h;exact ⟨v,h1.kM e (hM bw (.inl rfl)),h2.kM e λk hk=>hM k (.inr (h3 k hk)),h3,h4,e.lt h5⟩
theorem Wr.keepA {M:Nat->Prop}(h:Wr ty te w bw g xs)(e:Ext M w w')(hM:∀k,(k=bw∨k=g)->¬M k:=by intro k hk h;first|(have q:=hF k hk;(try dsimp only at h);omega)|(have q:=hF2 k hk;(try dsimp only at h);omega)|(have q:=hFb k hk;(try dsimp only at h);omega)|((try dsimp only at hk);(try dsimp only at h);omega)):Wr ty te w' bw g xs:=Wr.kM h e hM
theorem Wr.L (h:Wr ty te w bw g xs)(e:Le w w'):Wr ty te w' bw g xs:=h.kM e λ_ _=>not_false
theorem Wr.lt (h:Wr ty te w bw g xs):bw<w.heap.size∧g<w.heap.size:=by
 obtain ⟨v,h1,h2,h3,h4,h5⟩:=h;exact ⟨h1.lt,h5⟩
theorem Wr.new (h:Own w bw ty [.slice none 0 0]):Wr ty te w bw bw []:=⟨_,h,OwnF.nil _ _ _ _,λ_ h=>h.elim,λ_ h=>h.elim,h.lt⟩
theorem Wr.cell (h:Wr ty te w bw g xs):∃v,Own w bw ty [v]∧OwnF byteF te 0 w v xs∧(∀k,bk v k->k=g)∧(∀k,bk v k->k≠bw):=by
 obtain ⟨v,h1,h2,h3,h4,_⟩:=h;exact ⟨v,h1,h2,h3,h4⟩
theorem Wr.put {v:Value}(h1:Own w bw ty [v])(h2:OwnF byteF te 0 w v xs)(h3:∀k,bk v k->k≠bw):∃g',Wr ty te w bw g' xs∧((bk v g'∧∀k,bk v k->k=g')∨g'=bw):=by
 by_cases h:∃k,bk v k
 ·obtain ⟨k,hk⟩:=h
  have huniq:∀j,bk v j->j=k:=by
   intro j hj;cases v with
   |slice a n c=>
    cases a with
    |none=>exact hj.elim
    |some a=>simp only[bk] at hj hk;rw[hj,hk]
   |_=>exact hj.elim
  exact ⟨k,⟨v,h1,h2,huniq,h3,(h2.bk_ge k hk).2⟩,.inl ⟨hk,huniq⟩⟩
 ·exact ⟨bw,⟨v,h1,h2,λk hk=>absurd ⟨k,hk⟩ h,h3,h1.lt⟩,.inr rfl⟩
end
end Go.Pn
end
section
namespace Go.Pn
open Go.RowKit
section
variable {α:Type}{G:Flat α}{w w':World}{F:Nat->Prop}{v v' y:Value}{xs ys:List α}{B:Nat}{ty:TypeId}
theorem append_where {P:Program}{t tr:TypeId}{i:TypeInfo}{z:Value}(ht:P.underlying t=some (.slice ty))(hi:P.info? ty=some i)(hz:i.zero=some z)(hsz:i.size=G.sz)
 (hown:OwnF G ty B w v xs)(hy:Sl G.enc w F y ys)(hb:(xs.length+ys.length)*i.bytes<=140737488355328)(hl:xs.length+ys.length<=maxLen)
 (hr:(Builtin.append_ #[t,t] tr #[v,y]).run P w=.ok v' w'):∀k,bk v' k->bk v k∨w.heap.size<=k:=by
 have h63:xs.length+ys.length<=9223372036854775807:=by unfold maxLen at hl;omega
 have hsome:(∃a0,y=.slice a0 0 0∧ys=[]∧a0=none)∨∃a cap,y=.slice (some a) ys.length cap∧∀j u,(ys.flatMap G.e)[j]? =some u->w.cell? (a.add j)=some u:=by
  rcases hy.flat with ⟨a0,rfl,rfl⟩|⟨b,off,cap,hF,rfl,hc,hlt,hcell⟩
  ·cases a0 with
   |none=>exact .inl ⟨none,rfl,rfl,rfl⟩
   |some a=>exact .inr ⟨a,0,rfl,λj u hu=>by simp at hu⟩
  ·exact .inr ⟨⟨b,off,none⟩,cap,rfl,λj u hu=>by rw[Addr.add_none];exact hcell j u hu⟩
 rcases hsome with ⟨a0,rfl,rfl,rfl⟩|⟨a,cap,rfl,hcell⟩
 ·rw [run_append_owned_none (P:=P) (w:=w) B t tr ty i G.sz ht hi v xs.length _ hown.1] at hr
  cases hr;exact λk h=>.inl h
 ·rcases hown.1.2 with ⟨rfl,h0⟩|⟨g,cap',cur,rfl,hbg,hg,hnc,hcm,hcs,htake⟩
  ·have hx:xs=[]:=List.eq_nil_of_length_eq_zero h0
   subst hx
   by_cases hm:ys.length=0
   ·have hr2:(Builtin.append_ #[t,t] tr #[.slice none 0 0,.slice (some a) ys.length cap]).run P w=.ok (.slice none 0 0) w:=by
     simp[Builtin.append_,run_underlying ht,sizeOf,typeInfo,hi,Builtin.lenOf,Builtin.firstCells,loadCells,loadCellsFrom,hm]
    rw[hr2] at hr;cases hr;exact λk h=>h.elim
   ·rw [run_append_nil (P:=P) w t tr ty i z ht hi hz a ys.length cap (ys.flatMap G.e) (by rw[hsz];exact G.length ys) hcell (by omega) (by omega) (by simp only[List.length_nil,Nat.zero_add] at hb;omega)] at hr
    cases hr;intro k hk;have hk:k=w.heap.size:=hk;exact .inr (by omega)
  ·by_cases hroom:xs.length+ys.length<=cap'
   ·have hfit:xs.length*i.size+(ys.flatMap G.e).length<=cur.size:=by rw[G.length,hcs,hsz,<-Nat.add_mul];exact Nat.mul_le_mul_right _ hroom
    rw[run_append_room (P:=P) w t tr ty i ht hi g xs.length cap' cur hg a ys.length cap (ys.flatMap G.e) (by rw[hsz];exact G.length ys) hcell (G.ones ys) hroom hfit] at hr;cases hr;exact λk h=>.inl h
   ·have holds:∀j u,(xs.flatMap G.e)[j]? =some u->w.cell? ((⟨g,0,none⟩:Addr).add j)=some u:=hown.1.cells (g:=g) rfl
    rw[run_append_grow (P:=P) w t tr ty i z ht hi hz ⟨g,0,none⟩ xs.length cap' (xs.flatMap G.e) (by rw[hsz];exact G.length xs) holds a ys.length cap (ys.flatMap G.e) (by rw[hsz];exact G.length ys) hcell (by omega) (by omega) (growslice_fits (by omega) hb)] at hr;cases hr;intro k hk;have hk:k=w.heap.size:=hk;exact .inr (by omega)
end
section
variable
 {d:Nat}{x y:Operand}{t t' ty tr e:TypeId}{pos:String}{after:Array Edge}{α:Type}{G:Flat α}{F:Nat->Prop}
theorem O.appW {i:TypeInfo}{z v v2:Value}{xs ys:List α}{B:Nat}(ht:P.underlying t=some (.slice e))(hi:P.info? e=some i)(hz:i.zero=some z)(hsz:i.size=G.sz)(hzs:z.cells.size=G.sz)
 (hx:ev n f x=v)(hy:ev n f y=v2)(hown:OwnF G e B w v xs)(hv2:Sl G.enc w F v2 ys)(hb:(xs.length+ys.length)*i.bytes<=140737488355328)(hl:xs.length+ys.length<=maxLen)(hB:B<=w.heap.size)
 (h:∀v' w',OwnF G e B w' v' (xs++ys)->Ext (bk v) w w'->(∀k,bk v' k->bk v k∨w.heap.size<=k)->O P n ops rest N Z (upd f d v') w'):
 O P n ops (ZO d (.call {callee:=.builtin .append,args:=[x,y].toArray,argTypes:=[t,t].toArray}) tr pos after::rest) N Z f w:=by
 obtain ⟨v',w',hr,ho,he⟩:=run_append_flat (P:=P) (tr:=tr) ht hi hz hsz hzs hown hv2 hb hl hB;refine O.val rfl rfl ?_ (h v' w' ho he (append_where ht hi hz hsz hown hv2 hb hl hr));have h3:(execOp (ev n f) (ZO d (.call {callee:=.builtin .append,args:=[x,y].toArray,argTypes:=[t,t].toArray}) tr pos after)).run P w=((Builtin.append_ #[t,t] tr #[ev n f x,ev n f y]).run P w).andThen (λv w=>.ok (.value v) w):=by
  simp[execOp,resolve,invoke,builtin]
 rw[h3,hx,hy,hr]
 rfl
end
abbrev MarkT:=(Int×Int)×Int×BitVec 64
abbrev ItemT:=List UInt8×List MarkT
def markF:Flat MarkT:=⟨4,λm=>[.int .i64 m.1.1,.int .i64 m.1.2,.int .i64 m.2.1,.int .u64 (m.2.2.toNat:Int)],λ_=>rfl,by simp[Value.oneCell'],by decide⟩
def mv (m:MarkT):Value:=.agg #[.int .i64 m.1.1,.int .i64 m.1.2,.int .i64 m.2.1,.int .u64 (m.2.2.toNat:Int)]
def itemE:Enc ItemT where
 sz:=2
 rep:=λw F cs x=>∃v,cs=[str x.1,v]∧Sl markF.enc w F v x.2
 len:=by rintro w F cs x ⟨v,rfl,_⟩;rfl
 one:=by
  rintro w F cs x ⟨v,rfl,h⟩ c hc;obtain ⟨l,cap,rfl,_⟩:=h.val;simp only[List.mem_cons,List.not_mem_nil,or_false] at hc;rcases hc with rfl|rfl<;>rfl
 ext:=by rintro w w' F cs x ⟨v,rfl,h⟩ hw;exact ⟨v,rfl,h.ext hw⟩
 weak:=by rintro w F F' cs x ⟨v,rfl,h⟩ hF;exact ⟨v,rfl,h.weak hF⟩
def slv (x:Option Addr×Nat×Nat):Value:=.slice x.1 x.2.1 x.2.2
def itemF:Flat (List UInt8×(Option Addr×Nat×Nat)):=⟨2,λx=>[str x.1,slv x.2],λ_=>rfl,by simp[Value.oneCell',str,slv],by decide⟩
def Items (w:World)(F:Nat->Prop)(raw:List (List UInt8×(Option Addr×Nat×Nat)))(xs:List ItemT):Prop:=
 raw.length=xs.length∧∀i,∀h:i<raw.length,∀h':i<xs.length,raw[i].1=xs[i].1∧Sl markF.enc w F (slv raw[i].2) xs[i].2
theorem Items.kM {M:Nat->Prop}{w w':World}{F:Nat->Prop}{raw:List (List UInt8×(Option Addr×Nat×Nat))}{xs:List ItemT}(h:Items w F raw xs)(e:Ext M w w')(hM:∀k,F k->¬M k):Items w' F raw xs:=
 ⟨h.1,λi h1 h2=>⟨(h.2 i h1 h2).1,(h.2 i h1 h2).2.kM e hM⟩⟩
theorem Items.keepA {M:Nat->Prop}{w w':World}{F:Nat->Prop}{raw:List (List UInt8×(Option Addr×Nat×Nat))}{xs:List ItemT}(h:Items w F raw xs)(e:Ext M w w')(hM:∀k,F k->¬M k:=by intro k hk h;first|(have q:=hF k hk;(try dsimp only at h);omega)|(have q:=hF2 k hk;(try dsimp only at h);omega)|(have q:=hFb k hk;(try dsimp only at h);omega)|((try dsimp only at hk);(try dsimp only at h);omega)):Items w' F raw xs:=Items.kM h e hM
theorem Items.L {w w':World}{F:Nat->Prop}{raw:List (List UInt8×(Option Addr×Nat×Nat))}{xs:List ItemT}(h:Items w F raw xs)(e:Le w w'):Items w' F raw xs:=h.kM e λ_ _=>not_false
theorem Items.weak {w:World}{F F':Nat->Prop}{raw:List (List UInt8×(Option Addr×Nat×Nat))}{xs:List ItemT}(h:Items w F raw xs)(hF:∀k,F k->F' k):Items w F' raw xs:=
 ⟨h.1,λi h1 h2=>⟨(h.2 i h1 h2).1,(h.2 i h1 h2).2.weak hF⟩⟩
theorem Items.weakA {w:World}{F F':Nat->Prop}{raw:List (List UInt8×(Option Addr×Nat×Nat))}{xs:List ItemT}(h:Items w F raw xs)(hF:∀k,F k->F' k:=by intro q hq;(try dsimp only at hq);(try dsimp only);omega):Items w F' raw xs:=Items.weak h hF
theorem Items.sl {w:World}{F:Nat->Prop}{v:Value}{raw:List (List UInt8×(Option Addr×Nat×Nat))}{xs:List ItemT}(h:Items w F raw xs)(hv:Sl itemF.enc w F v raw):Sl itemE w F v xs:=by
 have hl:=h.1;refine ⟨by rw[<-hl];exact hv.1,?_⟩;rcases hv.2 with ⟨a,rfl,rfl⟩|⟨b,off,cap,cur,ty,fr,rfl,hF,hb,h1,h2,h3,hr⟩
 ·exact .inl ⟨a,rfl,List.eq_nil_of_length_eq_zero (by rw[<-hl];rfl)⟩
 ·refine .inr ⟨b,off,cap,cur,ty,fr,by rw[hl],hF,hb,by omega,h2,by rw[<-hl];exact h3,λi hi=>?_⟩
  have h4:(cur.toList.drop (off+i*2)).take 2=itemF.e (raw[i]'(by omega)):=hr i (by omega);obtain ⟨h5,h6⟩:=h.2 i (by omega) hi;refine ⟨_,?_,h6⟩;show (cur.toList.drop (off+i*2)).take 2=_;rw[h4,<-h5]
  rfl
theorem Sl.slv {α:Type}{E:Enc α}{w:World}{F:Nat->Prop}{v:Value}{xs:List α}(h:Sl E w F v xs):∃a,v=Go.Pn.slv a:=by
 obtain ⟨l,cap,rfl,_⟩:=h.val;exact ⟨(l,xs.length,cap),rfl⟩
theorem Sl.oneC {α:Type}{E:Enc α}{w:World}{F:Nat->Prop}{v:Value}{xs:List α}(h:Sl E w F v xs):v.oneCell'=true:=by
 obtain ⟨l,cap,rfl,_⟩:=h.val
 rfl
section
variable
 {d:Nat}{x:Operand}{t tr:TypeId}{pos:String}{after:Array Edge}
theorem O.loadName {F:Nat->Prop}{a:Addr}{z:ItemT}(hag:∀w,(isAgg t).run P w=.ok false w)(hx:ev n f x=.pointer (some (a.add 0)))(ha:At itemE w F a z)
 (h:O P n ops rest N Z (upd f d (str z.1)) w):O P n ops (ZO d (.load t x) tr pos after::rest) N Z f w:=
 O.loadAtC hag (by decide) hx ha λcs u hr hu=>by
  obtain ⟨v,rfl,_⟩:=hr;cases hu;exact h
theorem O.loadMarks {F:Nat->Prop}{a:Addr}{z:ItemT}(hag:∀w,(isAgg t).run P w=.ok false w)(hx:ev n f x=.pointer (some (a.add 1)))(ha:At itemE w F a z)
 (h:∀v,Sl markF.enc w F v z.2->O P n ops rest N Z (upd f d v) w):O P n ops (ZO d (.load t x) tr pos after::rest) N Z f w:=
 O.loadAtC hag (by decide) hx ha λcs u hr hu=>by
  obtain ⟨v,rfl,hm⟩:=hr;cases hu;exact h _ hm
end
theorem ones2 {n:List UInt8}{v:Value}(h:v.oneCell'=true):∀u∈[str n,v],u.oneCell'=true:=by
 intro u hu;simp only[List.mem_cons,List.not_mem_nil,or_false] at hu;rcases hu with rfl|rfl
 ·rfl
 ·exact h
section
variable
 {d:Nat}{x y:Operand}{t t' tr:TypeId}{pos:String}{after:Array Edge}
theorem run_eq_mark {m0 m1 m2 f0 f1:Field} (ht:P.underlying t=some (.struct #[m0,m1,m2])) (q0:m0.name≠ "_") (q1:m1.name≠ "_") (q2:m2.name≠ "_") (p0:m0.offset=0) (p1:m1.offset=2) (p2:m2.offset=3)
 (htd:P.underlying m0.type=some (.struct #[f0,f1])) (n0:f0.name≠ "_") (n1:f1.name≠ "_") (o0:f0.offset=0) (o1:f1.offset=1) (u0:P.underlying f0.type=some (.int .i64)) (u1:P.underlying f1.type=some (.int .i64))
 (v1:P.underlying m1.type=some (.int .i64)) (v2:P.underlying m2.type=some (.int .u64))
 (a0:∀w,(isAgg f0.type).run P w=.ok false w) (a1:∀w,(isAgg f1.type).run P w=.ok false w) (b0:∀w,(isAgg m0.type).run P w=.ok true w) (s0:∀w,(sizeOf m0.type).run P w=.ok 2 w) (b1:∀w,(isAgg m1.type).run P w=.ok false w) (b2:∀w,(isAgg m2.type).run P w=.ok false w)
 (hp:P.stoodInHeld t=false) (hp0:P.stoodInHeld m0.type=false) (a b:MarkT):(Op.equal t (mv a) (mv b)).run P w=.ok (decide (a=b)) w:=by
 have hf:P.fieldsOf t=#[m0,m1,m2]:=by unfold Program.fieldsOf;rw[ht]
 have hfd:P.fieldsOf m0.type=#[f0,f1]:=by unfold Program.fieldsOf;rw[htd]
 unfold Op.equal Op.maxDepth mv;rw[run_equalIn_struct w 9999 t _ _ (by rw[hf];exact ht) hp,hf];have e0:∀u v w,(Op.equalIn 9998 f0.type (.int .i64 u) (.int .i64 v)).run P w=.ok (u==v) w:=λu v w=>run_equalIn_int w 9997 f0.type .i64 .i64 u v u0
 have e1:∀u v w,(Op.equalIn 9998 f1.type (.int .i64 u) (.int .i64 v)).run P w=.ok (u==v) w:=λu v w=>run_equalIn_int w 9997 f1.type .i64 .i64 u v u1
 have e2:∀u v w,(Op.equalIn 9999 m1.type (.int .i64 u) (.int .i64 v)).run P w=.ok (u==v) w:=λu v w=>run_equalIn_int w 9998 m1.type .i64 .i64 u v v1
 have e3:∀u v w,(Op.equalIn 9999 m2.type (.int .u64 u) (.int .u64 v)).run P w=.ok (u==v) w:=λu v w=>run_equalIn_int w 9998 m2.type .u64 .u64 u v v2
 have ed:∀w,(Op.equalIn 9999 m0.type (.agg #[.int .i64 a.1.1,.int .i64 a.1.2]) (.agg #[.int .i64 b.1.1,.int .i64 b.1.2])).run P w=.ok (decide (a.1=b.1)) w:=by
  intro w;rw[run_equalIn_struct w 9998 m0.type _ _ (by rw[hfd];exact htd) hp0,hfd];simp only[Op.eqFields,n0,n1,ne_eq,not_false_eq_true,if_true,Sem.run_bind,part,a0,Result.andThen_ok,Bool.false_eq_true,if_false,o0,o1];simp only[show (#[Value.int .i64 a.1.1,.int .i64 a.1.2])[0]? =some (Value.int .i64 a.1.1) from rfl,show (#[Value.int .i64 a.1.1,.int .i64 a.1.2])[1]? =some (Value.int .i64 a.1.2) from rfl,
   show (#[Value.int .i64 b.1.1,.int .i64 b.1.2])[0]? =some (Value.int .i64 b.1.1) from rfl,show (#[Value.int .i64 b.1.1,.int .i64 b.1.2])[1]? =some (Value.int .i64 b.1.2) from rfl,Sem.run_pure,Result.andThen_ok,e0,Sem.run_ite]
  by_cases h1:a.1.1=b.1.1
  ·by_cases h2:a.1.2=b.1.2
   ·have h:a.1=b.1:=Prod.ext h1 h2
    simp[e1,a1,h]
   ·have h:¬a.1=b.1:=λh=>h2 (by rw[h])
    have h3:(a.1.2==b.1.2)=false:=by simpa using h2
    have h4:(a.1.1==b.1.1)=true:=by simpa using h1
    simp[e1,h,a1,h3,h4]
  ·have h:¬a.1=b.1:=λh=>h1 (by rw[h])
   simp[h1,h]
 have x0:∀c:MarkT,(#[Value.int .i64 c.1.1,.int .i64 c.1.2,.int .i64 c.2.1,.int .u64 (c.2.2.toNat:Int)]).extract 0 2=#[Value.int .i64 c.1.1,.int .i64 c.1.2]:=λc=>rfl
 simp only[Op.eqFields,q0,q1,q2,ne_eq,not_false_eq_true,if_true,Sem.run_bind,part,b0,s0,Result.andThen_ok,p0,p1,p2];simp only[show ∀c:MarkT,(#[Value.int .i64 c.1.1,.int .i64 c.1.2,.int .i64 c.2.1,.int .u64 (c.2.2.toNat:Int)])[2]? =some (Value.int .i64 c.2.1) from λ_=>rfl,
  show ∀c:MarkT,(#[Value.int .i64 c.1.1,.int .i64 c.1.2,.int .i64 c.2.1,.int .u64 (c.2.2.toNat:Int)])[3]? =some (Value.int .u64 (c.2.2.toNat:Int)) from λ_=>rfl,Nat.zero_add,x0,Sem.run_pure,Result.andThen_ok,ed,Sem.run_ite]
 by_cases h1:a.1=b.1
 ·by_cases h2:a.2.1=b.2.1
  ·by_cases h3:a.2.2=b.2.2
   ·have h:a=b:=Prod.ext h1 (Prod.ext h2 h3)
    subst h
    simp[e2,e3,b1,b2]
   ·have h:¬a=b:=λh=>h3 (by rw[h])
    have h4:((a.2.2.toNat:Int)==(b.2.2.toNat:Int))=false:=by
     simp only[beq_eq_false_iff_ne,ne_eq];intro h5;exact h3 (BitVec.eq_of_toNat_eq (by omega))
    have h6:(a.2.1==b.2.1)=true:=by simpa using h2
    simp[h1,e2,e3,b1,b2,h4,h6,h]
  ·have h:¬a=b:=λh=>h2 (by rw[h])
   have h4:(a.2.1==b.2.1)=false:=by simpa using h2
   simp[h1,e2,b1,b2,h4,h]
 ·have h:¬a=b:=λh=>h1 (by rw[h])
  simp[h1,h]
end
section
variable
 {d:Nat}{x y:Operand}{t t' tr:TypeId}{pos:String}{after:Array Edge}
theorem O.neqM {a b:MarkT}(hq:∀a b:MarkT,∀{w:World},(Op.equal t (Go.Pn.mv a) (Go.Pn.mv b)).run P w=.ok (decide (a=b)) w)(hm:P.eqGuardType P.depth t=false)
 (hx:ev n f x=Go.Pn.mv a)(hy:ev n f y=Go.Pn.mv b)(h:O P n ops rest N Z (upd f d (.bool (decide (a≠b)))) w):
 O P n ops (ZO d (.binOp .neq t x y t') tr pos after::rest) N Z f w:=
 O.val rfl rfl (run_bin hx hy (run_eqGuard_agg w _ _ _ _ _ _ hm) (by
  have h2:binOp .neq t (Go.Pn.mv a) (Go.Pn.mv b)=(do pure (.bool (!(<-Op.equal t (Go.Pn.mv a) (Go.Pn.mv b))))):=rfl;show (binOp .neq t (Go.Pn.mv a) (Go.Pn.mv b)).run P w=_;rw[h2,Sem.run_bind,hq]
  simp[Result.andThen]) _ _) h
end
end Go.Pn
end
section
namespace Go.Pn
section
variable
 {d:Nat}{x:Operand}{t ty:TypeId}{pos:String}{after:Array Edge}{F:Nat->Prop}
theorem O.load1F {α:Type}{G:Flat α}{a:Addr}{z:α}{u:Value}(hag:∀w,(isAgg t).run P w=.ok false w)(h1:G.sz=1)(hu:G.e z=[u])(hx:ev n f x=.pointer (some a))(ha:At G.enc w F a z)
 (h:O P n ops rest N Z (upd f d u) w):O P n ops ({dst:=some d,op:=.load t x,type:=ty,pos:=pos,after:=after,guard:=.none}::rest) N Z f w:=
 O.load1 (E:=G.enc) hag h1 hx ha λv hv=>by
  have e:[v]=G.e z:=hv;rw[hu] at e;obtain rfl:v=u:=by simpa using e
  exact h
end
end Go.Pn
namespace Go.Pn.Dt
abbrev Dot:=Int×Int
def dotF:Flat Dot:=⟨2,λd=>[.int .i64 d.1,.int .i64 d.2],λ_=>rfl,by simp[Value.oneCell'],by decide⟩
def intF:Flat Int:=⟨1,λx=>[.int .i64 x],λ_=>rfl,by simp[Value.oneCell'],by decide⟩
abbrev intE:Enc Int:=intF.enc
def dv (d:Dot):Value:=.agg #[.int .i64 d.1,.int .i64 d.2]
def Valid (d:Dot):Prop:=1<=d.1∧d.1<=65535∧1<=d.2∧d.2<=4294967295
instance (d:Dot):Decidable (Valid d):=by unfold Valid;infer_instance
def Less (a b:Dot):Prop:=a.2<b.2∨(a.2=b.2∧a.1<b.1)
instance (a b:Dot):Decidable (Less a b):=by unfold Less;infer_instance
def cmp (a b:Dot):Int:=if Less a b then-1 else if Less b a then 1 else 0
theorem less_irrefl (a:Dot):¬Less a a:=by unfold Less;omega
theorem less_trans {a b c:Dot}(h:Less a b)(k:Less b c):Less a c:=by unfold Less at*;omega
theorem less_total (a b:Dot):Less a b∨a=b∨Less b a:=by
 unfold Less;rcases Int.lt_trichotomy a.2 b.2 with h|h|h
 ·exact .inl (.inl h)
 ·rcases Int.lt_trichotomy a.1 b.1 with k|k|k
  ·exact .inl (.inr ⟨h,k⟩)
  ·exact .inr (.inl (Prod.ext k h))
  ·exact .inr (.inr (.inr ⟨h.symm,k⟩))
 ·exact .inr (.inr (.inl h))
def icmp (a b:Int):Int:=if a<b then-1 else if b<a then 1 else 0
theorem cmp_or (a b:Dot):cmp a b=if icmp a.2 b.2≠0 then icmp a.2 b.2 else icmp a.1 b.1:=by
 unfold cmp icmp Less
 repeat' split
 all_goals first|rfl|omega
theorem cmp_lt (a b:Dot):cmp a b<0↔Less a b:=by
 unfold cmp
 split
 ·simp [*]
 ·split<;>simp[*]
theorem cmp_ge (a b:Dot):cmp a b≥0↔¬Less a b:=by rw[<-cmp_lt];omega
abbrev Sset (l:List Dot):Prop:=l.Pairwise Less
theorem sset_ext:∀{l l':List Dot},Sset l->Sset l'->(∀x,x∈l↔x∈l')->l=l':=by
 intro l
 induction l with
 |nil=>
  intro l' _ _ h;cases l' with
  |nil=>rfl
  |cons b l'=>exact absurd ((h b).2 (by simp)) (by simp)
 |cons a l ih=>
  intro l' h1 h2 h;cases l' with
  |nil=>exact absurd ((h a).1 (by simp)) (by simp)
  |cons b l'=>
   have p1:=List.pairwise_cons.1 h1;have p2:=List.pairwise_cons.1 h2;have hab:a=b:=by
    rcases List.mem_cons.1 ((h a).1 (by simp)) with e|ha
    ·exact e
    ·rcases List.mem_cons.1 ((h b).2 (by simp)) with e|hb
     ·exact e.symm
     ·exact absurd (less_trans (p2.1 a ha) (p1.1 b hb)) (less_irrefl b)
   subst hab;rw[ih p1.2 p2.2];intro x
   constructor
   ·intro hx
    rcases List.mem_cons.1 ((h x).1 (List.mem_cons_of_mem _ hx)) with e|hx2
    ·subst e;exact absurd (p1.1 x hx) (less_irrefl x)
    ·exact hx2
   ·intro hx
    rcases List.mem_cons.1 ((h x).2 (List.mem_cons_of_mem _ hx)) with e|hx2
    ·subst e;exact absurd (p2.1 x hx) (less_irrefl x)
    ·exact hx2
def withD (s:List Dot)(d:Dot):List Dot:=if d∈s then s else s.takeWhile (λy=>decide (Less y d))++d::s.dropWhile (λy=>decide (Less y d))
theorem with_mem (s:List Dot)(d x:Dot):x∈withD s d↔x∈s∨x=d:=by
 unfold withD
 split
 ·rename_i h
  constructor
  ·exact .inl
  ·rintro (h2|rfl)<;>assumption
 ·have e:=List.takeWhile_append_dropWhile (p:=λy=>decide (Less y d)) (l:=s)
  rw[List.mem_append,List.mem_cons];have e2:x∈s↔x∈s.takeWhile (λy=>decide (Less y d))∨x∈s.dropWhile (λy=>decide (Less y d)):=by rw[<-List.mem_append,e]
  rw[e2]
  constructor
  ·rintro (h|h|h)
   ·exact .inl (.inl h)
   ·exact .inr h
   ·exact .inl (.inr h)
  ·rintro ((h|h)|h)
   ·exact .inl h
   ·exact .inr (.inr h)
   ·exact .inr (.inl h)
theorem with_sset {s:List Dot}(d:Dot)(h:Sset s):Sset (withD s d):=by
 unfold withD
 split
 ·exact h
 ·rename_i hd
  induction s with
  |nil=>simp[Sset]
  |cons y s ih=>
   have p:=List.pairwise_cons.1 h
   by_cases hy:Less y d
   ·have e1:(y::s).takeWhile (λz=>decide (Less z d))=y::s.takeWhile (λz=>decide (Less z d)):=by simp[hy]
    have e2:(y::s).dropWhile (λz=>decide (Less z d))=s.dropWhile (λz=>decide (Less z d)):=by simp[hy]
    rw[e1,e2,List.cons_append];have hd2:d∉s:=λk=>hd (List.mem_cons_of_mem _ k)
    refine List.pairwise_cons.2 ⟨?_,ih p.2 hd2⟩;intro z hz;have hz2:z∈withD s d:=by unfold withD;rw[if_neg hd2];exact hz
    rcases (with_mem s d z).1 hz2 with k|rfl
    ·exact p.1 z k
    ·exact hy
   ·have e1:(y::s).takeWhile (λz=>decide (Less z d))=[]:=by simp[hy]
    have e2:(y::s).dropWhile (λz=>decide (Less z d))=y::s:=by simp[hy]
    rw[e1,e2,List.nil_append];have hdy:Less d y:=by
     rcases less_total d y with k|k|k
     ·exact k
     ·subst k;exact absurd (by simp) hd
     ·exact absurd k hy
    refine List.pairwise_cons.2 ⟨?_,h⟩;intro z hz;rcases List.mem_cons.1 hz with rfl|hz
    ·exact hdy
    ·exact less_trans hdy (p.1 z hz)
def addAll (s l:List Dot):List Dot:=l.foldl withD s
def set (l:List Dot):List Dot:=addAll [] l
theorem addAll_mem (l:List Dot):∀(s:List Dot) (x:Dot),x∈addAll s l↔x∈s∨x∈l:=by
 unfold addAll
 induction l with
 |nil=>intro s x;simp
 |cons a l ih=>
  intro s x;rw[List.foldl_cons,ih,with_mem,List.mem_cons]
  constructor
  ·rintro ((h|h)|h)
   ·exact .inl h
   ·exact .inr (.inl h)
   ·exact .inr (.inr h)
  ·rintro (h|h|h)
   ·exact .inl (.inl h)
   ·exact .inl (.inr h)
   ·exact .inr h
theorem addAll_sset (l:List Dot):∀{s:List Dot},Sset s->Sset (addAll s l):=by
 unfold addAll
 induction l with
 |nil=>intro s h;exact h
 |cons a l ih=>intro s h;exact ih (with_sset a h)
theorem set_mem (l:List Dot)(x:Dot):x∈set l↔x∈l:=by unfold set;rw[addAll_mem];simp
theorem set_sset (l:List Dot):Sset (set l):=addAll_sset l List.Pairwise.nil
theorem with_length (s:List Dot)(d:Dot):(withD s d).length<=s.length+1:=by
 unfold withD
 split
 ·omega
 ·have e:=congrArg List.length (List.takeWhile_append_dropWhile (p:=λy=>decide (Less y d)) (l:=s))
  rw[List.length_append] at e;rw[List.length_append,List.length_cons]
  omega
theorem addAll_length (l:List Dot):∀(s:List Dot),(addAll s l).length<=s.length+l.length:=by
 unfold addAll
 induction l with
 |nil=>intro s;simp
 |cons a l ih=>
  intro s;rw[List.foldl_cons,List.length_cons];have:=ih (withD s a);have:=with_length s a
  omega
def compact:List Dot->List Dot
 |[]=>[]
 |[a]=>[a]
 |a::b::l=>if a=b then compact (b::l) else a::compact (b::l)
theorem compact_mem:∀(l:List Dot) (x:Dot),x∈compact l↔x∈l
 |[],x=>by simp[compact]
 |[a],x=>by simp[compact]
 |a::b::l,x=>by
  unfold compact;have ih:=compact_mem (b::l) x
  split
  ·rename_i h
   subst h;rw[ih]
   simp
  ·simp only[List.mem_cons,ih]
theorem compact_head:∀(a:Dot) (l:List Dot),∃r,compact (a::l)=a::r
 |a,[]=>⟨[],rfl⟩
 |a,b::l=>by
  unfold compact
  split
  ·rename_i h
   subst h;exact compact_head a l
  ·exact ⟨_,rfl⟩
theorem compact_sset:∀{l:List Dot},l.Pairwise (λa b=>¬Less b a)->Sset (compact l)
 |[],_=>by simp[compact,Sset]
 |[a],_=>by simp[compact,Sset]
 |a::b::l,h=>by
  have p:=List.pairwise_cons.1 h;have ih:=compact_sset p.2;unfold compact
  split
  ·exact ih
  ·rename_i hab
   refine List.pairwise_cons.2 ⟨?_,ih⟩;intro z hz;have hb:Less a b:=by
    rcases less_total a b with k|k|k
    ·exact k
    ·exact absurd k hab
    ·exact absurd k (p.1 b (by simp))
   obtain ⟨r,hr⟩:=compact_head b l;rw[hr] at hz ih;rcases List.mem_cons.1 hz with rfl|hz
   ·exact hb
   ·exact less_trans hb ((List.pairwise_cons.1 ih).1 z hz)
theorem set_of_sorted {l l':List Dot}(hp:l'.Perm l)(hs:l'.Pairwise (λa b=>¬Less b a)):compact l'=set l:=by
 refine sset_ext (compact_sset hs) (set_sset l) λx=>?_
 rw[compact_mem,set_mem];exact hp.mem_iff
def isSet:List Dot->Bool
 |a::b::l=>decide (Less a b)&&isSet (b::l)
 |_=>true
theorem isSet_iff:∀(l:List Dot),isSet l=true↔∀i,∀h:i+1<l.length,Less l[i] l[i+1]
 |[]=>by simp[isSet]
 |[a]=>by simp[isSet]
 |a::b::l=>by
  have ih:=isSet_iff (b::l);unfold isSet;rw[Bool.and_eq_true,decide_eq_true_eq,ih]
  constructor
  ·rintro ⟨h1,h2⟩ i hi
   cases i with
   |zero=>exact h1
   |succ i=>exact h2 i (by simpa using hi)
  ·intro h
   refine ⟨h 0 (by simp),λi hi=>?_⟩;exact h (i+1) (by simpa using hi)
theorem isSet_no {l:List Dot}{i j:Nat}(hi:i<l.length)(hj:j<l.length)(hij:i=j+1)(h:¬Less l[j] l[i]):isSet l=false:=by
 cases hb:isSet l with
 |false=>rfl
 |true=>subst hij;exact absurd ((isSet_iff l).1 hb j hi) h
theorem isSet_yes {l:List Dot}(h:∀i,∀h:i+1<l.length,Less l[i] l[i+1]):isSet l=true:=(isSet_iff l).2 h
theorem not_mem {l:List Dot}{d:Dot}(h:∀i,∀hi:i<l.length,l[i]≠d):d∉l:=by
 intro hm;obtain ⟨i,hi,e⟩:=List.mem_iff_getElem.1 hm;exact h i hi e
theorem compact_snoc:∀(xs:List Dot) (a b:Dot),compact (xs++[a,b])=compact (xs++[a])++(if a=b then [] else [b])
 |[],a,b=>by
  simp only[List.nil_append,compact]
  split
  ·rename_i h;subst h;rfl
  ·rfl
 |[c],a,b=>by
  have ih:=compact_snoc [] a b;simp only[List.nil_append] at ih;show compact (c::a::[b])=compact (c::a::[])++_;unfold compact
  split
  ·exact ih
  ·rw [ih];rfl
 |c::e::xs,a,b=>by
  have ih:=compact_snoc (e::xs) a b;show compact (c::e::(xs++[a,b]))=compact (c::e::(xs++[a]))++_;rw[compact,compact]
  split
  ·exact ih
  ·rw [List.cons_append]
   exact congrArg (c:: ·) ih
theorem compact_take {l:List Dot}{n:Nat}(h1:1<=n)(h:n<l.length):compact (l.take (n+1))=compact (l.take n)++(if l[n-1]=l[n] then [] else [l[n]]):=by
 obtain ⟨m,rfl⟩:∃m,n=m+1:=⟨n-1,by omega⟩
 have e1:l.take (m+1)=l.take m++[l[m]]:=List.take_succ_eq_append_getElem (by omega);have e2:l.take (m+1+1)=l.take m++[l[m],l[m+1]]:=by
  rw[List.take_succ_eq_append_getElem h,e1,List.append_assoc]
  rfl
 rw[e2,e1,compact_snoc]
 rfl
theorem compact_distinct:∀{l:List Dot},(∀i,∀h:i+1<l.length,l[i]≠l[i+1])->compact l=l
 |[],_=>rfl
 |[a],_=>rfl
 |a::b::l,h=>by
  have h0:a≠b:=h 0 (by simp);rw[compact,if_neg h0,compact_distinct (l:=b::l) (λi hi=>h (i+1) (by simpa using hi))]
def mg (p q r:Bool):Nat->List Dot->List Dot->List Dot
 |0,_,_=>[]
 |_+1,[],[]=>[]
 |n+1,a::x,[]=>(if p then [a] else [])++mg p q r n x []
 |n+1,[],b::y=>(if r then [b] else [])++mg p q r n [] y
 |n+1,a::x,b::y=>
  if Less a b then (if p then [a] else [])++mg p q r n x (b::y)
  else if Less b a then (if r then [b] else [])++mg p q r n (a::x) y
  else (if q then [a] else [])++mg p q r n x y
theorem mg_fuel (p q r:Bool):∀(n m:Nat) (x y:List Dot),x.length+y.length<=n->x.length+y.length<=m->mg p q r n x y=mg p q r m x y:=by
 intro n
 induction n with
 |zero=>
  intro m x y h _;have hx:x=[]:=List.eq_nil_of_length_eq_zero (by omega);have hy:y=[]:=List.eq_nil_of_length_eq_zero (by omega);subst hx hy;cases m<;>simp[mg]
 |succ n ih=>
  intro m x y h k;cases m with
  |zero=>
   have hx:x=[]:=List.eq_nil_of_length_eq_zero (by omega);have hy:y=[]:=List.eq_nil_of_length_eq_zero (by omega);subst hx hy
   simp[mg]
  |succ m=>
   cases x with
   |nil=>
    cases y with
    |nil=>simp[mg]
    |cons b y=>rw[mg,mg,ih m [] y (by simp at h ⊢;omega) (by simp at k ⊢;omega)]
   |cons a x=>
    cases y with
    |nil=>rw[mg,mg,ih m x [] (by simp at h ⊢;omega) (by simp at k ⊢;omega)]
    |cons b y=>
     simp only[List.length_cons] at h k;rw[mg,mg,ih m x (b::y) (by simp;omega) (by simp;omega),ih m (a::x) y (by simp;omega) (by simp;omega),ih m x y (by omega) (by omega)]
def merge (p q r:Bool)(x y:List Dot):List Dot:=mg p q r (x.length+y.length) x y
theorem merge_nil (p q r:Bool):merge p q r [] []=[]:=by simp[merge,mg]
theorem merge_first {p q r:Bool}{a:Dot}{x y:List Dot}(h:y=[]∨∃b y',y=b::y'∧Less a b):merge p q r (a::x) y=(if p then [a] else [])++merge p q r x y:=by
 unfold merge;rcases h with rfl|⟨b,y',rfl,h⟩
 ·simp [mg]
 ·have e:(a::x).length+(b::y').length=(x.length+(b::y').length)+1:=by simp;omega
  rw[e,mg,if_pos h]
theorem merge_second {p q r:Bool}{b:Dot}{x y:List Dot}(h:x=[]∨∃a x',x=a::x'∧Less b a):merge p q r x (b::y)=(if r then [b] else [])++merge p q r x y:=by
 unfold merge;rcases h with rfl|⟨a,x',rfl,h⟩
 ·have e:([]:List Dot).length+(b::y).length=(([]:List Dot).length+y.length)+1:=by simp
  rw[e,mg]
 ·have e:(a::x').length+(b::y).length=((a::x').length+y.length)+1:=by simp;omega
  rw[e,mg,if_neg (λk=>less_irrefl a (less_trans k h)),if_pos h]
theorem merge_both {p q r:Bool}{a b:Dot}{x y:List Dot}(h1:¬Less a b)(h2:¬Less b a):merge p q r (a::x) (b::y)=(if q then [a] else [])++merge p q r x y:=by
 unfold merge;have e:(a::x).length+(b::y).length=(x.length+y.length+1)+1:=by simp;omega
 rw[e,mg,if_neg h1,if_neg h2,mg_fuel p q r (x.length+y.length+1) (x.length+y.length) x y (by omega) (Nat.le_refl _)]
theorem cmp_gt0 (a b:Dot):cmp a b>0↔Less b a:=by
 unfold cmp
 split
 ·next h=>exact ⟨λk=>absurd k (by decide),λk=>absurd (less_trans h k) (less_irrefl a)⟩
 ·split<;>simp[*]
theorem first_of {a:Dot}{y:List Dot}(hy:0<y.length)(c:cmp a (y[0]'hy)<0):y=[]∨∃b y',y=b::y'∧Less a b:=by
 cases y with
 |nil=>exact .inl rfl
 |cons b y'=>exact .inr ⟨b,y',rfl,(cmp_lt a b).1 c⟩
theorem second_of {b:Dot}{x:List Dot}(hx:0<x.length)(c:cmp (x[0]'hx) b>0):x=[]∨∃a x',x=a::x'∧Less b a:=by
 cases x with
 |nil=>exact .inl rfl
 |cons a x'=>exact .inr ⟨a,x',rfl,(cmp_gt0 a b).1 c⟩
theorem keepA {p q r:Bool}{out x y R:List Dot}{a:Dot}(hI:out++merge p q r (a::x) y=R)(h:y=[]∨∃b y',y=b::y'∧Less a b):(if p then out++[a] else out)++merge p q r x y=R:=by
 rw[merge_first h] at hI;cases p<;>simpa using hI
theorem keepC {p q r:Bool}{out x y R:List Dot}{b:Dot}(hI:out++merge p q r x (b::y)=R)(h:x=[]∨∃a x',x=a::x'∧Less b a):(if r then out++[b] else out)++merge p q r x y=R:=by
 rw[merge_second h] at hI;cases r<;>simpa using hI
theorem keepB {p q r:Bool}{out x y R:List Dot}{a b:Dot}(hI:out++merge p q r (a::x) (b::y)=R)(h1:¬cmp a b<0)(h2:¬cmp a b>0):(if q then out++[a] else out)++merge p q r x y=R:=by
 rw[cmp_lt] at h1;rw[cmp_gt0] at h2;rw[merge_both h1 h2] at hI;cases q<;>simpa using hI
end Go.Pn.Dt
end
section
namespace Go.Pn.Cn
open Go Go.Pn
abbrev Dot:=Dt.Dot
abbrev Mark:=MarkT
abbrev Item:=ItemT
abbrev Ctx:=List Dot×List Dot
abbrev Cart:=Ctx×List Item
instance decItem:DecidableEq Item:=inferInstanceAs (DecidableEq (List UInt8×List MarkT))
instance decCart:DecidableEq Cart:=inferInstanceAs (DecidableEq ((List Dt.Dot×List Dt.Dot)×List Item))
def num (n:Nat):List UInt8:=if n<128 then [UInt8.ofNat n] else UInt8.ofNat (128+n%128)::num (n/128)
termination_by n
decreasing_by omega
theorem num_lt {n:Nat}(h:n<128):num n=[UInt8.ofNat n]:=by rw[num,if_pos h]
theorem num_ge {n:Nat}(h:¬n<128):num n=UInt8.ofNat (128+n%128)::num (n/128):=by rw[num,if_neg h]
def u (x:Int):Nat:=(BitVec.ofInt 64 x).toNat
def dotB (d:Dot):List UInt8:=num (u d.1)++num (u d.2)
def dotsB (l:List Dot):List UInt8:=num l.length++l.flatMap dotB
def ctxB (x:Ctx):List UInt8:=dotsB x.1++dotsB x.2
def markB (m:Mark):List UInt8:=num (u m.1.1)++(num (u m.1.2)++(num (u m.2.1)++num m.2.2.toNat))
def strB (s:List UInt8):List UInt8:=num s.length++s
def itemB (x:Item):List UInt8:=strB x.1++(num x.2.length++x.2.flatMap markB)
def itemsB (l:List Item):List UInt8:=num l.length++l.flatMap itemB
def bytes (c:Cart):List UInt8:=ctxB c.1++itemsB c.2
def get (v:List Dot)(r:Int):Int:=match v.find? (λd=>d.1==r) with
 |some d=>d.2
 |none=>0
def adj {α:Type}(r:α->α->Bool):List α->Bool
 |a::b::l=>r a b&&adj r (b::l)
 |_=>true
def incr (v:List Dot):Bool:=adj (λa b=>decide (a.1<b.1)) v
def okD (d:Dot):Bool:=decide (Dt.Valid d)
def badD (d:Dot):Bool:= !okD d
def vecValid (v:List Dot):Bool:=incr v&& !v.any badD
def ctxValid (x:Ctx):Bool:=vecValid x.1&&(Dt.isSet x.2&& !x.2.any badD)
def near (v:List Dot)(d:Dot):Bool:=decide (d.2<=get v d.1+1)
def isCompact (x:Ctx):Bool:=ctxValid x&& !x.2.any (near x.1)
def okC (c:UInt8):Bool:= !(decide (c.toNat<32)||decide (c.toNat>126))
def okName (s:List UInt8):Bool:=s.all okC&&(decide (1<=s.length∧s.length<=64)&&(decide (Lib.trimB s 32=s)&& !Lib.contains s [32,32]))
def okM (m:Mark):Bool:=okD m.1&&(decide (1<=m.2.1∧m.2.1<=2147483647)&&decide (0<m.2.2.toNat))
def badM (m:Mark):Bool:= !okM m
def mdots (l:List Mark):List Dot:=l.map (·.1)
def badI (x:Item):Bool:= !okName x.1||(decide (x.2.length=0)||(!Dt.isSet (mdots x.2)||x.2.any badM))
def names (l:List Item):Bool:=adj (λa b=>Op.bytesLess a.1 b.1) l
def dotsOf (l:List Item):List Dot:=Dt.set (l.flatMap λx=>mdots x.2)
def count (l:List Item):Nat:=(l.map λx=>x.2.length).sum
def itemsValid (l:List Item):Bool:= !l.any badI&&(names l&&decide ((dotsOf l).length=count l))
def vecHas (v:List Dot)(d:Dot):Bool:=okD d&&decide (d.2<=get v d.1)
def ctxHas (x:Ctx)(d:Dot):Bool:=vecHas x.1 d||(okD d&&decide (d∈x.2))
def missing (x:Ctx)(l:List Dot):List Dot:=(Dt.set l).filter λd=> !ctxHas x d
def valid (c:Cart):Bool:=isCompact c.1&&(itemsValid c.2&&decide ((missing c.1 (dotsOf c.2)).length=0))
def smallI (x:Item):Bool:=decide (x.2.length<=20)&&decide (x.1.length<=100)
def small (a:Cart):Bool:=decide ((a.1.1.length<=40∧a.1.2.length<=40)∧a.2.length<=20)&&a.2.all smallI
theorem any_false {α:Type}{p:α->Bool}{l:List α}(h:(!l.any p)=true):∀x∈l,p x=false:=by
 intro x hx;have h2:l.any p=false:=by simpa using h
 rw[List.any_eq_false] at h2;have:=h2 x hx
 simpa using this
theorem okD_of {d:Dot}(h:badD d=false):Dt.Valid d:=by
 unfold badD okD at h
 simpa using h
theorem u8_eq {a b:UInt8}:a=b↔a.toNat=b.toNat:=⟨λh=>by rw[h],λh=>UInt8.toNat_inj.1 h⟩
end Go.Pn.Cn
end
section
namespace Go.Pn.Cn
open Go Go.Pn
def idx {α:Type}(p:α->Bool):List α->Int
 |[]=> -1
 |a::l=>if p a then 0 else if idx p l= -1 then-1 else idx p l+1
section
variable {α:Type}{p:α->Bool}{l:List α}
theorem idx_ge:∀l:List α,-1<=idx p l
 |[]=>by simp[idx]
 |a::l=>by
  have:=idx_ge l;rw[idx]
  split
  ·omega
  ·split<;>omega
theorem idx_no:∀{l:List α},(∀i,∀h:i<l.length,p l[i]=false)->idx p l= -1
 |[],_=>rfl
 |a::l,h=>by
  have h0:=h 0 (by simp);have h1:=idx_no (l:=l) λi hi=>by
   have:=h (i+1) (by simpa using hi)
   simpa using this
  simp only[List.getElem_cons_zero] at h0;rw[idx,h0,h1]
  rfl
theorem idx_yes:∀{l:List α} {k:Nat} (hk:k<l.length),p l[k]=true->(∀i,∀h:i<l.length,i<k->p l[i]=false)->idx p l=k
 |[],k,hk,_,_=>by simp at hk
 |a::l,0,_,h,_=>by
  simp only[List.getElem_cons_zero] at h;rw[idx,h]
  rfl
 |a::l,k+1,hk,h,hb=>by
  have h0:=hb 0 (by simp) (by omega);simp only[List.getElem_cons_zero] at h0;have h1:=idx_yes (l:=l) (k:=k) (by simpa using hk) (by simpa using h) λi hi hik=>by
   have:=hb (i+1) (by simpa using hi) (by omega)
   simpa using this
  rw[idx,h0,h1,if_neg (by decide),if_neg (by omega)]
  omega
theorem idx_any:∀l:List α,decide (idx p l≥0)=l.any p
 |[]=>rfl
 |a::l=>by
  have ih:=idx_any l;have:=idx_ge (p:=p) l;rw[idx,List.any_cons]
  by_cases h:p a=true
  ·rw [if_pos h,h];rfl
  ·rw [if_neg h]
   have h':p a=false:=by simpa using h
   rw[h',Bool.false_or,<-ih]
   apply decide_eq_decide.2
   split<;>omega
theorem idx_lt {l:List α}(h:0<=idx p l):(idx p l).toNat<l.length:=by
 induction l with
 |nil=>simp[idx] at h
 |cons a l ih=>
  rw[idx] at h ⊢
  split
  ·simp
  ·split
   ·rename_i h1 h2
    rw[if_neg h1,if_pos h2] at h
    omega
   ·rename_i h1 h2
    rw[if_neg h1,if_neg h2] at h;have:=idx_ge (p:=p) l;have:=ih (by omega);simp only[List.length_cons]
    omega
end
theorem get_no {v:List Dot}{r:Int}(h:idx (λd:Dot=>decide (d.1=r)) v<0):get v r=0:=by
 induction v with
 |nil=>rfl
 |cons a v ih=>
  rw[idx] at h
  split at h
  ·omega
  ·rename_i h1
   have h2:=idx_ge (p:=λd:Dot=>decide (d.1=r)) v;have h3:idx (λd:Dot=>decide (d.1=r)) v<0:=by
    split at h<;>omega
   have h4:¬a.1=r:=by simpa using h1
   unfold get at ih ⊢;rw[List.find?_cons_of_neg (by simpa using h4)];exact ih h3
theorem get_yes {v:List Dot}{r:Int}{k:Nat}(h:idx (λd:Dot=>decide (d.1=r)) v=k):∃hk:k<v.length,get v r=v[k].2:=by
 induction v generalizing k with
 |nil=>simp[idx] at h
 |cons a v ih=>
  rw[idx] at h;have h2:=idx_ge (p:=λd:Dot=>decide (d.1=r)) v
  split at h
  ·rename_i h1
   obtain rfl:k=0:=by omega
   have h4:a.1=r:=by simpa using h1
   refine ⟨by simp,?_⟩;unfold get;rw[List.find?_cons_of_pos (by simpa using h4)]
   try rfl
  ·rename_i h1
   have h4:¬a.1=r:=by simpa using h1
   split at h
   ·omega
   ·obtain ⟨j,rfl⟩:∃j,k=j+1:=⟨k-1,by omega⟩
    obtain ⟨hj,e⟩:=ih (k:=j) (by omega);refine ⟨by simpa using hj,?_⟩;unfold get at e ⊢;rw[List.find?_cons_of_neg (by simpa using h4)]
    simpa using e
theorem get_yes2 {v:List Dot}{r:Int}(h:¬idx (λd:Dot=>decide (d.1=r)) v<0):∃hk:(idx (λd:Dot=>decide (d.1=r)) v).toNat<v.length,get v r=v[(idx (λd:Dot=>decide (d.1=r)) v).toNat].2:=get_yes (by omega)
theorem get_bound {x:Ctx}(h:ctxValid x=true):∀r,0<=get x.1 r∧get x.1 r<=4294967295:=by
 intro r;unfold ctxValid vecValid at h;simp only[Bool.and_eq_true] at h;have h1:=any_false h.1.2;have h2:=idx_ge (p:=λd:Dot=>decide (d.1=r)) x.1
 by_cases h3:idx (λd:Dot=>decide (d.1=r)) x.1<0
 ·rw [get_no h3]
  omega
 ·obtain ⟨hk,e⟩:=get_yes (v:=x.1) (r:=r) (k:=(idx (λd:Dot=>decide (d.1=r)) x.1).toNat) (by omega)
  have h4:=okD_of (h1 _ (List.getElem_mem hk));unfold Dt.Valid at h4
  omega
section
variable {α:Type}{r:α->α->Bool}
theorem adj_yes:∀{l:List α},(∀i,∀h:i+1<l.length,r l[i] l[i+1]=true)->adj r l=true
 |[],_=>rfl
 |[_],_=>rfl
 |a::b::l,h=>by
  have h0:=h 0 (by simp);have h1:=adj_yes (l:=b::l) λi hi=>by
   have:=h (i+1) (by simpa using hi)
   simpa using this
  simp only[List.getElem_cons_zero,List.getElem_cons_succ] at h0;rw[adj,h0,h1]
  rfl
theorem adj_of:∀{l:List α},adj r l=true->∀i,∀h:i+1<l.length,r l[i] l[i+1]=true
 |[],_,i,hi=>by simp at hi
 |[_],_,i,hi=>by simp at hi
 |a::b::l,h,0,hi=>by
  rw[adj,Bool.and_eq_true] at h
  simpa using h.1
 |a::b::l,h,i+1,hi=>by
  rw[adj,Bool.and_eq_true] at h;have:=adj_of (l:=b::l) h.2 i (by simpa using hi)
  simpa using this
theorem adj_no {l:List α}{i j:Nat}(hi:i<l.length)(hj:j<l.length)(hij:i=j+1)(h:r l[j] l[i]=false):adj r l=false:=by
 subst hij;cases hq:adj r l with
 |false=>rfl
 |true=>
  have:=adj_of hq j hi;rw[this] at h;cases h
end
theorem any_yes {α:Type}{p:α->Bool}{l:List α}{k:Nat}(hk:k<l.length)(h:p l[k]=true):l.any p=true:=List.any_eq_true.2 ⟨l[k],List.getElem_mem _,h⟩
theorem any_no {α:Type}{p:α->Bool}{l:List α}(h:∀i,∀hi:i<l.length,p l[i]=false):l.any p=false:=by
 rw[List.any_eq_false];intro x hx;obtain ⟨i,hi,rfl⟩:=List.getElem_of_mem hx;rw[h i hi]
 decide
theorem all_yes {α:Type}{p:α->Bool}{l:List α}(h:∀i,∀hi:i<l.length,p l[i]=true):l.all p=true:=by
 rw[List.all_eq_true];intro x hx;obtain ⟨i,hi,rfl⟩:=List.getElem_of_mem hx;exact h i hi
theorem all_no {α:Type}{p:α->Bool}{l:List α}{k:Nat}(hk:k<l.length)(h:p l[k]=false):l.all p=false:=by
 cases hq:l.all p with
 |false=>rfl
 |true=>
  have:=(List.all_eq_true.1 hq) _ (List.getElem_mem hk);rw[this] at h;cases h
theorem flatMap_take {α β:Type}(f:α->List β){l:List α}{k:Nat}(hk:k<l.length):(l.take (k+1)).flatMap f=(l.take k).flatMap f++f l[k]:=by
 rw[List.take_succ_eq_append_getElem hk,List.flatMap_append,List.flatMap_singleton]
theorem map_take {α β:Type}(f:α->β){l:List α}{k:Nat}(hk:k<l.length):(l.take (k+1)).map f=(l.take k).map f++[f l[k]]:=by
 rw[List.take_succ_eq_append_getElem hk,List.map_append]
 rfl
theorem count_take {l:List Item}{k:Nat}(hk:k<l.length):count (l.take (k+1))=count (l.take k)+l[k].2.length:=by
 unfold count;rw[map_take _ hk,List.sum_append]
 simp
theorem flat_len {l:List Item}{b:Nat}(h:∀x∈l,x.2.length<=b):(l.flatMap λx=>mdots x.2).length<=l.length*b:=by
 induction l with
 |nil=>simp
 |cons a l ih=>
  have h1:=h a (by simp);have h2:=ih λx hx=>h x (by simp[hx])
  rw[List.flatMap_cons,List.length_append,List.length_cons,Nat.add_mul,Nat.one_mul];have:(mdots a.2).length=a.2.length:=by unfold mdots;simp
  omega
theorem flat_take {l:List Item}{b k:Nat}(h:∀x∈l,x.2.length<=b)(hk:k<=l.length):((l.take k).flatMap λx=>mdots x.2).length<=k*b:=by
 have:=flat_len (l:=l.take k) λx hx=>h x (List.mem_of_mem_take hx)
 rwa [List.length_take,Nat.min_eq_left hk] at this
theorem dotsOf_len {l:List Item}{b:Nat}(h:∀x∈l,x.2.length<=b):(dotsOf l).length<=l.length*b:=by
 have h1:=flat_len h;have h2:=Dt.addAll_length (l.flatMap λx=>mdots x.2) [];simp only[List.length_nil,Nat.zero_add] at h2;unfold dotsOf Dt.set
 omega
theorem count_le {l:List Item}{b:Nat}(h:∀x∈l,x.2.length<=b):count l<=l.length*b:=by
 induction l with
 |nil=>simp[count]
 |cons a l ih=>
  have h1:=h a (by simp);have h2:=ih λx hx=>h x (by simp[hx])
  unfold count at h2 ⊢;rw[List.map_cons,List.sum_cons,List.length_cons,Nat.add_mul,Nat.one_mul]
  omega
theorem count_take_le {l:List Item}{b k:Nat}(h:∀x∈l,x.2.length<=b)(hk:k<=l.length):count (l.take k)<=k*b:=by
 have:=count_le (l:=l.take k) λx hx=>h x (List.mem_of_mem_take hx)
 rwa [List.length_take,Nat.min_eq_left hk] at this
theorem okName_all {s:List UInt8}{k:Nat}(hk:k<s.length)(h:okC s[k]=false):okName s=false:=by
 unfold okName;rw[all_no hk h]
 rfl
theorem okC_lo {c:UInt8}(h:c.toNat<32):okC c=false:=by unfold okC;rw[decide_eq_true h];rfl
theorem okC_hi {c:UInt8}(h:c.toNat>126):okC c=false:=by
 unfold okC;rw[decide_eq_true h,Bool.or_true]
 rfl
theorem okC_ok {c:UInt8}(h:¬c.toNat<32)(k:¬c.toNat>126):okC c=true:=by unfold okC;rw[decide_eq_false h,decide_eq_false k];rfl
theorem filter_none {α:Type}{p:α->Bool}{l:List α}(h:idx p l= -1):(l.filter λx=> !p x)=l:=by
 rw[List.filter_eq_self];intro x hx;obtain ⟨i,hi,rfl⟩:=List.getElem_of_mem hx;have h1:=idx_any (p:=p) l;rw[h] at h1;have h2:l.any p=false:=by rw[<-h1];decide
 have:=List.any_eq_false.1 h2 _ hx
 simpa using this
theorem filter_take {α:Type}(p:α->Bool){l:List α}{k:Nat}(hk:k<l.length):((l.take (k+1)).filter λx=> !p x)=((l.take k).filter λx=> !p x)++(if p l[k] then [] else [l[k]]):=by
 rw[List.take_succ_eq_append_getElem hk,List.filter_append,List.filter_cons];cases p l[k]<;>rfl
theorem idx_at {α:Type}{p:α->Bool}:∀{l:List α} {k:Nat},idx p l=(k:Int)->(∃hk:k<l.length,p l[k]=true)∧∀i,∀h:i<l.length,i<k->p l[i]=false
 |[],k,h=>by simp[idx] at h
 |a::l,k,h=>by
  rw[idx] at h;have h2:=idx_ge (p:=p) l
  split at h
  ·rename_i h1
   obtain rfl:k=0:=by omega
   exact ⟨⟨by simp,by simpa using h1⟩,λi _ hi=>absurd hi (Nat.not_lt_zero _)⟩
  ·rename_i h1
   split at h
   ·omega
   ·obtain ⟨j,rfl⟩:∃j,k=j+1:=⟨k-1,by omega⟩
    obtain ⟨⟨hj,e⟩,hb⟩:=idx_at (p:=p) (l:=l) (k:=j) (by omega);refine ⟨⟨by simpa using hj,by simpa using e⟩,λi hi hik=>?_⟩;cases i with
    |zero=>simpa using h1
    |succ i=>simpa using hb i (by simpa using hi) (by omega)
theorem filter_first {α:Type}{p:α->Bool}{l:List α}{k:Nat}(h:idx p l=(k:Int)):(l.take k).filter (λx=> !p x)=l.take k∧(l.take (k+1)).filter (λx=> !p x)=l.take k:=by
 obtain ⟨⟨hk,h1⟩,h2⟩:=idx_at h;have e:(l.take k).filter (λx=> !p x)=l.take k:=by
  rw[List.filter_eq_self];intro x hx;obtain ⟨i,hi,rfl⟩:=List.getElem_of_mem hx;have hi2:i<k:=by simp at hi;omega
  rw[List.getElem_take,h2 i (by omega) hi2]
  rfl
 exact ⟨e,by rw[filter_take p hk,e,h1];simp⟩
theorem num_step {m:BitVec 64}(h:¬m.toNat<128):num m.toNat=UInt8.ofBitVec (m.setWidth 8|||128#8)::num (m>>>7).toNat:=by
 have e1:(m>>>7).toNat=m.toNat/128:=by rw[BitVec.toNat_ushiftRight,Nat.shiftRight_eq_div_pow]
 have e2:UInt8.ofNat (128+m.toNat%128)=UInt8.ofBitVec (m.setWidth 8|||128#8):=by
  apply UInt8.toNat_inj.1
  have h1:(UInt8.ofBitVec (m.setWidth 8|||128#8)).toNat=(m.setWidth 8|||128#8).toNat:=rfl;rw[h1,UInt8.toNat_ofNat'];have h2:∀x:BitVec 8,(x|||128#8).toNat=128+x.toNat%128:=by decide+kernel
  rw[h2,BitVec.toNat_setWidth]
  omega
 rw[num_ge h,e1,e2]
theorem num_last {m:BitVec 64}(h:m.toNat<128):num m.toNat=[UInt8.ofBitVec (m.setWidth 8)]:=by
 rw[num_lt h];refine congrArg (λx=>[x]) ?_
 apply UInt8.toNat_inj.1
 have h1:(UInt8.ofBitVec (m.setWidth 8)).toNat=(m.setWidth 8).toNat:=rfl;rw[h1,UInt8.toNat_ofNat',BitVec.toNat_setWidth]
theorem num_le (n:Nat):n<2^64->(num n).length<=10:=by
 have key:∀(g n:Nat),n<128^(g+1)->(num n).length<=g+1:=by
  intro g
  induction g with
  |zero=>intro n h;rw[num_lt (by simpa using h)];simp
  |succ g ih=>
   intro n h
   by_cases h1:n<128
   ·rw [num_lt h1];simp
   ·rw [num_ge h1,List.length_cons]
    have:=ih (n/128) (by rw[Nat.div_lt_iff_lt_mul (by decide),<-Nat.pow_succ];exact h)
    omega
 intro h;exact key 9 n (by omega)
theorem num_u (x:BitVec 64):(num x.toNat).length<=10:=num_le _ x.isLt
theorem u_def (x:Int):(BitVec.ofInt 64 x).toNat=u x:=rfl
theorem u_nat {n:Nat}(h:n<2^64):u (n:Int)=n:=by
 unfold u;rw[BitVec.ofInt_natCast,BitVec.toNat_ofNat,Nat.mod_eq_of_lt h]
theorem flatten_take {α:Type}{l:List (List α)}{k:Nat}(hk:k<l.length):(l.take (k+1)).flatten=(l.take k).flatten++l[k]:=by
 rw[List.take_succ_eq_append_getElem hk,List.flatten_append,List.flatten_singleton]
theorem flatten_take_le {α:Type}(l:List (List α))(k:Nat):(l.take k).flatten.length<=l.flatten.length:=by
 conv=>rhs;rw[<-List.take_append_drop k l]
 rw[List.flatten_append,List.length_append]
 omega
theorem num_u' (n:Int):(num (u n)).length<=10:=num_le _ (BitVec.isLt _)
theorem flatMap_le {α β:Type}{f:α->List β}{b:Nat}{l:List α}(h:∀x∈l,(f x).length<=b):(l.flatMap f).length<=b*l.length:=by
 induction l with
 |nil=>simp
 |cons a l ih=>
  have h1:=h a (by simp);have h2:=ih λx hx=>h x (by simp[hx])
  rw[List.flatMap_cons,List.length_append,List.length_cons,Nat.mul_add,Nat.mul_one]
  omega
theorem flatMap_take_le {α β:Type}{f:α->List β}{b k:Nat}{l:List α}(h:∀x∈l,(f x).length<=b)(hk:k<=l.length):((l.take k).flatMap f).length<=b*k:=by
 have:=flatMap_le (l:=l.take k) λx hx=>h x (List.mem_of_mem_take hx)
 rwa [List.length_take,Nat.min_eq_left hk] at this
theorem dotB_le (d:Dot):(dotB d).length<=20:=by
 have h1:=num_u' d.1;have h2:=num_u' d.2;unfold dotB;rw[List.length_append]
 omega
theorem markB_le (m:Mark):(markB m).length<=40:=by
 have h1:=num_u' m.1.1;have h2:=num_u' m.1.2;have h3:=num_u' m.2.1;have h4:=num_u m.2.2;unfold markB;simp only[List.length_append]
 omega
theorem dotsB_le {l:List Dot}(h:l.length<=1000000):(dotsB l).length<=20000010:=by
 have h1:=num_le l.length (by omega);have h2:=flatMap_le (f:=dotB) (b:=20) (l:=l) λx _=>dotB_le x
 unfold dotsB;rw[List.length_append]
 omega
theorem itemB_le {x:Item}(h:x.1.length<=1000000∧x.2.length<=1000000):(itemB x).length<=41000020:=by
 have h1:=num_le x.1.length (by omega);have h2:=num_le x.2.length (by omega);have h3:=flatMap_le (f:=markB) (b:=40) (l:=x.2) λx _=>markB_le x
 unfold itemB strB;simp only[List.length_append]
 omega
theorem bytes_le {a:Cart}(hn:a.2.length<=1000000)(hS:∀x∈a.2,x.1.length<=1000000∧x.2.length<=1000000)(hp:a.1.1.length<=1000000)(hq:a.1.2.length<=1000000):(bytes a).length<=42000000000000:=by
 have h1:=dotsB_le hp;have h2:=dotsB_le hq;have h3:=num_le a.2.length (by omega);have h4:=flatMap_le (f:=itemB) (b:=41000020) (l:=a.2) λx hx=>itemB_le (hS x hx)
 unfold bytes ctxB itemsB;simp only[List.length_append]
 omega
theorem err_yes {b:Bool}(h:(if b then (0:Int) else 2)≠0):b=false:=by cases b<;>simp_all
end Go.Pn.Cn
end
section
namespace Go.Pn
open Go.RowKit
def Fre {α:Type}(G:Flat α)(ty:TypeId)(w:World)(F:Nat->Prop)(v:Value)(xs:List α):Prop:=OwnF G ty 0 w v xs∧∀k,bk v k->F k
abbrev Raw:=Option Addr×Nat×Nat
section
variable {α:Type}{G:Flat α}{ty:TypeId}{B:Nat}{w w':World}{F F' M:Nat->Prop}{v:Value}{xs:List α}
theorem OwnF.fre (h:OwnF G ty B w v xs)(hF:∀k,bk v k->F k):Fre G ty w F v xs:=⟨h.low (Nat.zero_le _),hF⟩
theorem Fre.nil (G:Flat α)(ty:TypeId)(w:World)(F:Nat->Prop):Fre G ty w F (.slice none 0 0) []:=⟨OwnF.nil _ _ _ _,λ_ h=>h.elim⟩
theorem Fre.kM (h:Fre G ty w F v xs)(e:Ext M w w')(hM:∀k,F k->¬M k):Fre G ty w' F v xs:=⟨h.1.kM e λk hk=>hM k (h.2 k hk),h.2⟩
theorem Fre.keepA (h:Fre G ty w F v xs)(e:Ext M w w')(hM:∀k,F k->¬M k:=by intro k hk h;first|(have q:=hF k hk;(try dsimp only at h);omega)|(have q:=hF2 k hk;(try dsimp only at h);omega)|(have q:=hFb k hk;(try dsimp only at h);omega)|((try dsimp only at hk);(try dsimp only at h);omega)):Fre G ty w' F v xs:=Fre.kM h e hM
theorem Fre.L (h:Fre G ty w F v xs)(e:Le w w'):Fre G ty w' F v xs:=h.kM e λ_ _=>not_false
theorem Fre.weak (h:Fre G ty w F v xs)(hF:∀k,F k->F' k):Fre G ty w F' v xs:=⟨h.1,λk hk=>hF k (h.2 k hk)⟩
theorem Fre.weakA (h:Fre G ty w F v xs)(hF:∀k,F k->F' k:=by intro q hq;(try dsimp only at hq);(try dsimp only);omega):Fre G ty w F' v xs:=Fre.weak h hF
theorem Fre.sl (h:Fre G ty w F v xs):Sl G.enc w F v xs:=h.1.sl.weak h.2
theorem Fre.slv (h:Fre G ty w F v xs):∃a,v=Go.Pn.slv a:=h.sl.slv
end
def ItemsF (tm:TypeId)(w:World)(F:Nat->Prop)(raw:List (List UInt8×Raw))(xs:List ItemT):Prop:=
 raw.length=xs.length∧∀i,∀h:i<raw.length,∀h':i<xs.length,raw[i].1=xs[i].1∧Fre markF tm w F (slv raw[i].2) xs[i].2
section
variable {tm ti:TypeId}{w w':World}{F F' M:Nat->Prop}{raw:List (List UInt8×Raw)}{xs:List ItemT}{v:Value}
theorem ItemsF.nil:ItemsF tm w F [] []:=⟨rfl,λi h=>by simp at h⟩
theorem ItemsF.kM (h:ItemsF tm w F raw xs)(e:Ext M w w')(hM:∀k,F k->¬M k):ItemsF tm w' F raw xs:=⟨h.1,λi h1 h2=>⟨(h.2 i h1 h2).1,(h.2 i h1 h2).2.kM e hM⟩⟩
theorem ItemsF.keepA (h:ItemsF tm w F raw xs)(e:Ext M w w')(hM:∀k,F k->¬M k:=by intro k hk h;first|(have q:=hF k hk;(try dsimp only at h);omega)|(have q:=hF2 k hk;(try dsimp only at h);omega)|(have q:=hFb k hk;(try dsimp only at h);omega)|((try dsimp only at hk);(try dsimp only at h);omega)):ItemsF tm w' F raw xs:=ItemsF.kM h e hM
theorem ItemsF.L (h:ItemsF tm w F raw xs)(e:Le w w'):ItemsF tm w' F raw xs:=h.kM e λ_ _=>not_false
theorem ItemsF.weak (h:ItemsF tm w F raw xs)(hF:∀k,F k->F' k):ItemsF tm w F' raw xs:=⟨h.1,λi h1 h2=>⟨(h.2 i h1 h2).1,(h.2 i h1 h2).2.weak hF⟩⟩
theorem ItemsF.weakA (h:ItemsF tm w F raw xs)(hF:∀k,F k->F' k:=by intro q hq;(try dsimp only at hq);(try dsimp only);omega):ItemsF tm w F' raw xs:=ItemsF.weak h hF
theorem ItemsF.items (h:ItemsF tm w F raw xs):Items w F raw xs:=⟨h.1,λi h1 h2=>⟨(h.2 i h1 h2).1,(h.2 i h1 h2).2.sl⟩⟩
theorem ItemsF.snoc {a:List UInt8×Raw}{x:ItemT}(h:ItemsF tm w F raw xs)(hn:a.1=x.1)(hm:Fre markF tm w F (slv a.2) x.2):ItemsF tm w F (raw++[a]) (xs++[x]):=by
 refine ⟨by simp[h.1],λi h1 h2=>?_⟩;have hl:=h.1;simp only[List.length_append,List.length_cons,List.length_nil] at h1
 by_cases hi:i<raw.length
 ·rw [List.getElem_append_left hi,List.getElem_append_left (by omega)]
  exact h.2 i hi (by omega)
 ·have e1:i=raw.length:=by omega
  subst e1;rw[List.getElem_append_right (by omega),List.getElem_append_right (by omega)];simp only[Nat.sub_self,hl,List.getElem_cons_zero];exact ⟨hn,hm⟩
def SlI (ti tm:TypeId)(w:World)(F:Nat->Prop)(v:Value)(xs:List ItemT):Prop:=∃raw,Fre itemF ti w F v raw∧ItemsF tm w F raw xs
theorem SlI.kM (h:SlI ti tm w F v xs)(e:Ext M w w')(hM:∀k,F k->¬M k):SlI ti tm w' F v xs:=by obtain ⟨raw,h1,h2⟩:=h;exact ⟨raw,h1.kM e hM,h2.kM e hM⟩
theorem SlI.keepA (h:SlI ti tm w F v xs)(e:Ext M w w')(hM:∀k,F k->¬M k:=by intro k hk h;first|(have q:=hF k hk;(try dsimp only at h);omega)|(have q:=hF2 k hk;(try dsimp only at h);omega)|(have q:=hFb k hk;(try dsimp only at h);omega)|((try dsimp only at hk);(try dsimp only at h);omega)):SlI ti tm w' F v xs:=SlI.kM h e hM
theorem SlI.weak (h:SlI ti tm w F v xs)(hF:∀k,F k->F' k):SlI ti tm w F' v xs:=by obtain ⟨raw,h1,h2⟩:=h;exact ⟨raw,h1.weak hF,h2.weak hF⟩
theorem SlI.weakA (h:SlI ti tm w F v xs)(hF:∀k,F k->F' k:=by intro q hq;(try dsimp only at hq);(try dsimp only);omega):SlI ti tm w F' v xs:=SlI.weak h hF
theorem SlI.sl (h:SlI ti tm w F v xs):Sl itemE w F v xs:=by obtain ⟨raw,h1,h2⟩:=h;exact h2.items.sl h1.sl
end
structure Stn (td ti tm:TypeId) (w:World) (F:Nat->Prop) (a1 a2 a3:Raw) (ps:List Raw) (K:Nat):Prop where
 d1:∃xs,Fre Dt.dotF td w F (slv a1) xs
 d2:∃xs,Fre Dt.dotF td w F (slv a2) xs
 d3:∃raw,Fre itemF ti w F (slv a3) raw∧raw.map (·.2)=ps∧∀r∈raw,r.1.length<=K
 m:∀p∈ps,∃ms,Fre markF tm w F (slv p) ms
section
variable {td ti tm:TypeId}{w w':World}{F M:Nat->Prop}{a1 a2 a3:Raw}{ps:List Raw}{K:Nat}
theorem Stn.kM (h:Stn td ti tm w F a1 a2 a3 ps K)(e:Ext M w w')(hM:∀k,F k->¬M k):Stn td ti tm w' F a1 a2 a3 ps K:=by
 obtain ⟨⟨x1,h1⟩,⟨x2,h2⟩,⟨x3,h3,h4,h5⟩,h6⟩:=h;refine ⟨⟨x1,h1.kM e hM⟩,⟨x2,h2.kM e hM⟩,⟨x3,h3.kM e hM,h4,h5⟩,λp hp=>?_⟩;obtain ⟨ms,h7⟩:=h6 p hp;exact ⟨ms,h7.kM e hM⟩
theorem Stn.keepA (h:Stn td ti tm w F a1 a2 a3 ps K)(e:Ext M w w')(hM:∀k,F k->¬M k:=by intro k hk h;first|(have q:=hF k hk;(try dsimp only at h);omega)|(have q:=hF2 k hk;(try dsimp only at h);omega)|(have q:=hFb k hk;(try dsimp only at h);omega)|((try dsimp only at hk);(try dsimp only at h);omega)):Stn td ti tm w' F a1 a2 a3 ps K:=Stn.kM h e hM
end
section
variable
 {x y:Operand}{t tr ty:TypeId}{pos:String}{after:Array Edge}{α:Type}
end
end Go.Pn
end
section
namespace Go.Pn
open Go.RowKit
section
variable
 {x y:Operand}{t ty:TypeId}{d:Nat}{pos:String}{after:Array Edge}{α:Type}{E:Enc α}{F:Nat->Prop}
theorem O.idxK {k:IntKind}{e:TypeId}{i:Nat}{s:Nat}{v:Value}{xs:List α}(ht:P.underlying t=some (.slice e))(hsz:∀w,(sizeOf e).run P w=.ok s w)(hs:E.sz=s)(hx:ev n f x=v)(hv:Sl E w F v xs)
 (hy:ev n f y=.int k (i:Int))(hi:i<xs.length)(h:∀a,At E w F a (xs[i]'hi)->O P n ops rest N Z (upd f d (.pointer (some a))) w):
 O P n ops (ZO d (.indexAddr t x y) ty pos after::rest) N Z f w:=by
 obtain ⟨b,off,cap,hval,hat⟩:=hv.elem (i:=i) (by omega);refine O.val rfl rfl ?_ (h _ hat);have h3:execOp (ev n f) (ZO d (.indexAddr t x y) ty pos after)=(do pure (.value (<-Instr.indexAt t (ev n f x) (ev n f y)))):=rfl;rw[h3,Sem.run_bind,hx,hy,hval];have h4:(Instr.indexAt t (.slice (some ⟨b,off,none⟩) xs.length cap) (.int k (i:Int))).run P w=.ok (.pointer (some ⟨b,off+i*E.sz,none⟩)) w:=by
  simp[Instr.indexAt,asIntOf,run_underlying ht,hi,hsz,Addr.add_none,hs]
 rw[h4]
 rfl
end
end Go.Pn
end
section
namespace Go.Pn
open Go.RowKit
def mget (es:List (Int×Int))(k:Int):Int:=match es.find? (λp=>p.1==k) with|some p=>p.2|none=>0
def mput:List (Int×Int)->Int->Int->List (Int×Int)
 |[],k,v=>[(k,v)]
 |p::r,k,v=>if p.1=k then (k,v)::r else p::mput r k v
def keyI:Value->Int|.int _ a=>a|_=>0
def pairOf (e:MapEntry):Int×Int:=(keyI e.key,keyI e.val)
def IntE (e:MapEntry):Prop:=e.key=.int .i64 (keyI e.key)∧e.val=.int .i64 (keyI e.val)
structure Ents (ens:List MapEntry) (clock:Nat) (es:List (Int×Int)):Prop where
 ints:∀e∈ens,IntE e
 pairs:ens.map pairOf=es
 old:∀e∈ens,e.born<clock
 born:(ens.map (·.born)).Nodup
 keys:(es.map (·.1)).Nodup
def MapO (w:World)(b:Nat)(es:List (Int×Int)):Prop:=∃(ens:Array MapEntry) (clock:Nat),w.heap[b]? =some (.map ens clock)∧Ents ens.toList clock es
def IterO (w:World)(r b:Nat)(es done:List (Int×Int)):Prop:=r≠b∧∃(ens:Array MapEntry) (clock:Nat) (seen:Array Nat) (ds:List MapEntry),
 w.heap[b]? =some (.map ens clock)∧Ents ens.toList clock es∧w.heap[r]? =some (.mapIter (some b) clock seen clock)∧seen.toList=ds.map (·.born)∧(∀e∈ds,e∈ens.toList)∧(ds.map (·.born)).Nodup∧done=ds.map pairOf
section
variable {w w':World}{b r:Nat}{es done:List (Int×Int)}{M:Nat->Prop}
theorem MapO.lt (h:MapO w b es):b<w.heap.size:=by obtain ⟨ens,clock,h1,_⟩:=h;exact lt_of_some h1
theorem MapO.kM (h:MapO w b es)(e:Ext M w w')(hM:¬M b):MapO w' b es:=by
 have hl:=h.lt;obtain ⟨ens,clock,h1,h2⟩:=h;exact ⟨ens,clock,(e.block b hl hM).trans h1,h2⟩
theorem MapO.kO (h:MapO w b es)(e:Ext M w w')(hM:¬M b:=by intro h;(try dsimp only at h);omega):MapO w' b es:=MapO.kM h e hM
theorem MapO.L (h:MapO w b es)(e:Le w w'):MapO w' b es:=h.kM e not_false
theorem MapO.keys (h:MapO w b es):(es.map (·.1)).Nodup:=by obtain ⟨ens,clock,_,h2⟩:=h;exact h2.keys
theorem IterO.lt (h:IterO w r b es done):r<w.heap.size∧b<w.heap.size:=by
 obtain ⟨_,ens,clock,seen,ds,h1,_,h3,_⟩:=h;exact ⟨lt_of_some h3,lt_of_some h1⟩
theorem IterO.kM (h:IterO w r b es done)(e:Ext M w w')(hM:∀k,(k=r∨k=b)->¬M k):IterO w' r b es done:=by
 have hl:=h.lt;obtain ⟨hn,ens,clock,seen,ds,h1,h2,h3,h4⟩:=h;exact ⟨hn,ens,clock,seen,ds,(e.block b hl.2 (hM b (.inr rfl))).trans h1,h2,(e.block r hl.1 (hM r (.inl rfl))).trans h3,h4⟩
theorem IterO.keepA (h:IterO w r b es done)(e:Ext M w w')(hM:∀k,(k=r∨k=b)->¬M k:=by intro k hk h;first|(have q:=hF k hk;(try dsimp only at h);omega)|(have q:=hF2 k hk;(try dsimp only at h);omega)|(have q:=hFb k hk;(try dsimp only at h);omega)|((try dsimp only at hk);(try dsimp only at h);omega)):IterO w' r b es done:=IterO.kM h e hM
theorem IterO.L (h:IterO w r b es done)(e:Le w w'):IterO w' r b es done:=h.kM e λ_ _=>not_false
theorem IterO.map (h:IterO w r b es done):MapO w b es:=by
 obtain ⟨hn,ens,clock,seen,ds,h1,h2,_⟩:=h;exact ⟨ens,clock,h1,h2⟩
theorem mput_keys {k v:Int}:∀{es:List (Int×Int)},(es.map (·.1)).Nodup->((mput es k v).map (·.1)).Nodup
 |[],_=>by simp[mput]
 |p::r,h=>by
  have h':=List.nodup_cons.1 h;unfold mput
  split
  ·rename_i hk
   subst hk;exact h
  ·rename_i hk
   refine List.nodup_cons.2 ⟨λhm=>?_,mput_keys h'.2⟩;have key:∀(l:List (Int×Int)),p.1∈(mput l k v).map (·.1)->p.1∈l.map (·.1):=by
    intro l
    induction l with
    |nil=>intro q;simp[mput] at q;exact absurd q hk
    |cons x l ih=>
     intro q;unfold mput at q
     split at q
     ·rename_i hx
      simp only[List.map_cons,List.mem_cons] at q ⊢;rcases q with q|q
      ·exact absurd q hk
      ·exact .inr q
     ·simp only[List.map_cons,List.mem_cons] at q ⊢
      rcases q with q|q
      ·exact .inl q
      ·exact .inr (ih q)
   exact h'.1 (key r hm)
theorem modify_set {α:Type}(g:α->α):∀{l:List α} {j:Nat} {e:α},l[j]? =some e->l.modify j g=l.set j (g e)
 |x::l,0,e,h=>by
  simp only[List.getElem?_cons_zero,Option.some.injEq] at h;subst h
  rfl
 |x::l,j+1,e,h=>by
  simp only[List.getElem?_cons_succ] at h;have:=modify_set g h;simp only[List.modify_succ_cons,List.set_cons_succ,this]
theorem nodup_of_map {α β:Type}(g:α->β){l:List α}(h:(l.map g).Nodup):l.Nodup:=by
 have:=List.pairwise_map.1 h;exact this.imp λhab e=>hab (congrArg g e)
theorem len_of_sub {α:Type}:∀{l m:List α},l.Nodup->(∀x∈l,x∈m)->l.length<=m.length
 |[],_,_,_=>Nat.zero_le _
 |x::l,m,h,hs=>by
  have h':=List.nodup_cons.1 h;obtain ⟨a,b,rfl⟩:=List.append_of_mem (hs x (.head _));have:=len_of_sub (m:=a++b) h'.2 λy hy=>by
   have q:=hs y (.tail _ hy);simp only[List.mem_append,List.mem_cons] at q ⊢;rcases q with q|q|q
   ·exact .inl q
   ·exact absurd (q ▸ hy) h'.1
   ·exact .inr q
  simp only[List.length_append,List.length_cons] at this ⊢
  omega
theorem isKey_int (k:Int):MapKept.IsKey (TypeDesc.int .i64) (.int .i64 k):=by simp[MapKept.IsKey]
theorem Ents.isKey {ens:List MapEntry}{clock:Nat}(h:Ents ens clock es):∀x∈ens,MapKept.IsKey (TypeDesc.int .i64) x.key:=λx hx=>by rw[(h.ints x hx).1];exact isKey_int _
theorem Ents.miss {ens:List MapEntry}{clock:Nat}{k:Int}(h:Ents ens clock es)(hk:∀x∈ens,x.key≠.int .i64 k):∀p∈es,p.1≠k:=by
 intro p hp e;rw[<-h.pairs] at hp;obtain ⟨x,hx,rfl⟩:=List.mem_map.1 hp;exact hk x hx (by rw[(h.ints x hx).1];exact congrArg _ e)
theorem mget_miss {k:Int}(h:∀p∈es,p.1≠k):mget es k=0:=by
 unfold mget;rw[List.find?_eq_none.2 λp hp=>by simpa using h p hp]
theorem mget_at:∀{es:List (Int×Int)} {j:Nat} {p:Int×Int},(es.map (·.1)).Nodup->es[j]? =some p->mget es p.1=p.2
 |q::r,0,p,_,h=>by
  simp only[List.getElem?_cons_zero,Option.some.injEq] at h;subst h
  simp[mget]
 |q::r,j+1,p,hn,h=>by
  have h':=List.nodup_cons.1 hn;simp only[List.getElem?_cons_succ] at h;have hm:p.1∈r.map (·.1):=List.mem_map.2 ⟨p,List.mem_of_getElem? h,rfl⟩;have hne:¬q.1=p.1:=λe=>h'.1 (show q.1∈r.map (·.1) by rw[e];exact hm)
  have:=mget_at h'.2 h;unfold mget at this ⊢;rw[List.find?_cons_of_neg (by simpa using hne)];exact this
theorem mput_miss {k v:Int}:∀{es:List (Int×Int)},(∀p∈es,p.1≠k)->mput es k v=es++[(k,v)]
 |[],_=>rfl
 |p::r,h=>by
  unfold mput;rw[if_neg (h p (.head _)),mput_miss λq hq=>h q (.tail _ hq)]
  rfl
theorem mput_at {k v:Int}:∀{es:List (Int×Int)} {j:Nat} {p:Int×Int},(es.map (·.1)).Nodup->es[j]? =some p->p.1=k->mput es k v=es.set j (k,v)
 |q::r,0,p,_,h,e=>by
  simp only[List.getElem?_cons_zero,Option.some.injEq] at h;subst h;unfold mput;rw[if_pos e]
  rfl
 |q::r,j+1,p,hn,h,e=>by
  have h':=List.nodup_cons.1 hn;simp only[List.getElem?_cons_succ] at h;have hm:p.1∈r.map (·.1):=List.mem_map.2 ⟨p,List.mem_of_getElem? h,rfl⟩;have hne:¬q.1=k:=λe2=>h'.1 (show q.1∈r.map (·.1) by rw[e2.trans e.symm];exact hm)
  unfold mput;rw[if_neg hne,mput_at h'.2 h e]
  rfl
end
section
variable
 {x y z:Operand}{t tr kt et:TypeId}{d:Nat}{pos:String}{after:Array Edge}{b r:Nat}{es done:List (Int×Int)}{k v:Int}
theorem O.makeM (h:∀b w',w.heap.size<=b->MapO w' b []->Le w w'->O P n ops rest N Z (upd f d (.map (some b))) w'):
 O P n ops (ZO d (.makeMap t none) tr pos after::rest) N Z f w:=by
 refine O.val (v:=.map (some w.heap.size)) (w':=w.alloc (.map #[] 0)) rfl rfl ?_ (h w.heap.size (w.alloc (.map #[] 0)) (Nat.le_refl _) ⟨#[],0,heap_alloc_new w _,⟨by simp,rfl,by simp,by simp,by simp⟩⟩ (Le.alloc _ _))
 rfl
theorem O.lookupM (hm:P.underlying t=some (.map kt et))(hk:P.underlying kt=some (.int .i64))(hz:(zeroValue et).run P w=.ok (.int .i64 0) w)(hx:ev n f x=.map (some b))(hy:ev n f y=.int .i64 k)(ho:MapO w b es)
 (h:O P n ops rest N Z (upd f d (.int .i64 (mget es k))) w):
 O P n ops (ZO d (.lookup t x y false) tr pos after::rest) N Z f w:=by
 refine O.val rfl rfl ?_ h;have h3:execOp (ev n f) (ZO d (.lookup t x y false) tr pos after)=(do pure (.value (<-Instr.lookup t (ev n f x) (ev n f y) false))):=rfl;rw[h3,Sem.run_bind,hx,hy];obtain ⟨ens,clock,hb,he⟩:=ho;have h4:(Instr.lookup t (.map (some b)) (.int .i64 k) false).run P w=.ok (.int .i64 (mget es k)) w:=by
  rcases MapKept.findNow_spec (isKey_int k) ens.toList 0 he.isKey with ⟨h1,h2⟩|⟨j,e,h1,h2,h5⟩
  ·simp [Instr.lookup,run_underlying hm,MapKept.run_getObj_map hb,MapKept.run_checkKey hk (isKey_int k),MapKept.run_findKey hk h1,hz,Result.andThen,mget_miss (he.miss h2)]
  ·have hi:=he.ints e (List.mem_of_getElem? h2)
   have hp:es[j]? =some (pairOf e):=by rw[<-he.pairs,List.getElem?_map,h2];rfl
   have h6:(pairOf e).1=k:=by
    show keyI e.key=k;rw[h5]
    rfl
   have h7:=mget_at he.keys hp;rw[h6] at h7
   simp[Instr.lookup,run_underlying hm,MapKept.run_getObj_map hb,MapKept.run_checkKey hk (isKey_int k),MapKept.run_findKey hk h1,Result.andThen,h7]
   exact hi.2
 rw[h4]
 rfl
theorem O.updateM (hm:P.underlying t=some (.map kt et))(hk:P.underlying kt=some (.int .i64))(hx:ev n f x=.map (some b))(hy:ev n f y=.int .i64 k)(hv:ev n f z=.int .i64 v)(ho:MapO w b es)
 (h:∀w',MapO w' b (mput es k v)->Ext (λi=>i=b) w w'->w'.heap.size=w.heap.size->O P n ops rest N Z f w'):
 O P n ops ({dst:=.none,op:=.mapUpdate t x y z,type:=tr,pos:=pos,after:=after,guard:=.none}::rest) N Z f w:=by
 obtain ⟨ens,clock,hb,he⟩:=ho;have hlt:=lt_of_some hb;have key:∃ens' clock',(Instr.mapUpdate t (.map (some b)) (.int .i64 k) (.int .i64 v)).run P w=.ok () {w with heap:=w.heap.setIfInBounds b (.map ens' clock')}∧Ents ens'.toList clock' (mput es k v):=by
  rcases MapKept.findNow_spec (isKey_int k) ens.toList 0 he.isKey with ⟨h1,h2⟩|⟨j,e,h1,h2,h5⟩
  ·refine ⟨ens.push {key:=.int .i64 k,val:=.int .i64 v,born:=clock},clock+1,?_,?_⟩
   ·simp [Instr.mapUpdate,run_underlying hm,MapKept.run_getObj_map hb,MapKept.run_checkKey hk (isKey_int k),MapKept.run_findKey hk h1,MapKept.run_setObj_map _ hb,Result.andThen]
   ·rw [mput_miss (he.miss h2)]
    have hkk:=mput_keys (k:=k) (v:=v) he.keys;rw[mput_miss (he.miss h2)] at hkk;refine ⟨λq hq=>?_,by simp[he.pairs,pairOf,keyI],λq hq=>?_,?_,hkk⟩
    ·simp only[Array.toList_push,List.mem_append,List.mem_singleton] at hq
     rcases hq with hq|rfl
     ·exact he.ints q hq
     ·exact ⟨rfl,rfl⟩
    ·simp only[Array.toList_push,List.mem_append,List.mem_singleton] at hq
     rcases hq with hq|rfl
     ·exact Nat.lt_succ_of_lt (he.old q hq)
     ·exact Nat.lt_succ_self _
    ·simp only[Array.toList_push,List.map_append,List.map_cons,List.map_nil]
     refine List.nodup_append.2 ⟨he.born,by simp,λq hq q2 hq2 e=>?_⟩;simp only[List.mem_singleton] at hq2;obtain ⟨u,hu,rfl⟩:=List.mem_map.1 hq;have:=he.old u hu
     omega
  ·have hj:ens[j]? =some e:=by simpa using h2
   have hi:=he.ints e (List.mem_of_getElem? h2);have hp:es[j]? =some (pairOf e):=by rw[<-he.pairs,List.getElem?_map,h2];rfl
   have h6:(pairOf e).1=k:=by
    show keyI e.key=k;rw[h5]
    rfl
   have hlist:(ens.modify j (λe'=>{e' with key:=.int .i64 k,val:=.int .i64 v})).toList=ens.toList.set j {e with key:=.int .i64 k,val:=.int .i64 v}:=by
    rw[Array.toList_modify,modify_set _ h2]
   refine ⟨ens.modify j (λe'=>{e' with key:=.int .i64 k,val:=.int .i64 v}),clock,?_,?_⟩
   ·simp [Instr.mapUpdate,run_underlying hm,MapKept.run_getObj_map hb,MapKept.run_checkKey hk (isKey_int k),MapKept.run_findKey hk h1,hj,h5,MapKept.run_keyThatStays (isKey_int k),MapKept.run_setObj_map _ hb,Result.andThen]
   ·rw [hlist,mput_at he.keys hp h6]
    have hkk:=mput_keys (k:=k) (v:=v) he.keys;rw[mput_at he.keys hp h6] at hkk;have hjl:=(List.getElem?_eq_some_iff.1 h2).1;have hmem:∀q∈ens.toList.set j {e with key:=.int .i64 k,val:=.int .i64 v},q∈ens.toList∨q={e with key:=.int .i64 k,val:=.int .i64 v}:=λq hq=>List.mem_or_eq_of_mem_set hq
    refine ⟨λq hq=>?_,?_,λq hq=>?_,?_,hkk⟩
    ·rcases hmem q hq with hq|rfl
     ·exact he.ints q hq
     ·exact ⟨rfl,rfl⟩
    ·rw [List.map_set,he.pairs]
     rfl
    ·rcases hmem q hq with hq|rfl
     ·exact he.old q hq
     ·exact he.old e (List.mem_of_getElem? h2)
    ·have e2:(ens.toList.set j {e with key:=.int .i64 k,val:=.int .i64 v}).map (·.born)=ens.toList.map (·.born):=by
      rw[List.map_set]
      apply List.ext_getElem?
      intro i;rw[List.getElem?_set]
      split
      ·rename_i hij
       subst hij;rw[List.length_map,if_pos hjl,List.getElem?_map,h2]
       rfl
      ·rfl
     rw[e2];exact he.born
 obtain ⟨ens',clock',hrun,he'⟩:=key;refine O.act (w':={w with heap:=w.heap.setIfInBounds b (.map ens' clock')}) rfl rfl ?_ (h _ ⟨ens',clock',(MapKept.heap_set hb).1,he'⟩ ⟨rfl,rfl,rfl,by simp,λi _ hi=>(MapKept.heap_set hb).2 i hi⟩ (by simp));have h3:execOp (ev n f) {dst:=.none,op:=.mapUpdate t x y z,type:=tr,pos:=pos,after:=after,guard:=.none}=(do Instr.mapUpdate t (ev n f x) (ev n f y) (ev n f z);pure .skip):=rfl;rw[h3,Sem.run_bind,hx,hy,hv,hrun]
 rfl
theorem O.rangeM (hm:P.underlying t=some (.map kt et))(hx:ev n f x=.map (some b))(ho:MapO w b es)
 (h:∀r w',w.heap.size<=r->IterO w' r b es []->Le w w'->O P n ops rest N Z (upd f d (.pointer (some ⟨r,0,none⟩))) w'):
 O P n ops (ZO d (.range t x) tr pos after::rest) N Z f w:=by
 have hlt:=ho.lt;obtain ⟨ens,clock,hb,he⟩:=ho;refine O.val rfl rfl ?_ (h w.heap.size (w.alloc (.mapIter (some b) clock #[] clock)) (Nat.le_refl _) ⟨by omega,ens,clock,#[],[],(heap_alloc_old w _ (h:=hlt)).trans hb,he,heap_alloc_new w _,rfl,by simp,by simp,rfl⟩ (Le.alloc _ _));have h3:execOp (ev n f) (ZO d (.range t x) tr pos after)=(do pure (.value (<-Instr.range t (ev n f x)))):=rfl;rw[h3,Sem.run_bind,hx,run_range_map w t kt et b ens clock hm hb]
 rfl
theorem O.nextM (hx:ev n f x=.pointer (some ⟨r,0,none⟩))(ho:IterO w r b es done)
 (h0:done.Perm es->O P n ops rest N Z (upd f d (.tuple #[.bool false])) w)
 (h1:∀p w',p∈es->p∉done->done.length<es.length->IterO w' r b es (done++[p])->Ext (λi=>i=r) w w'->w'.heap.size=w.heap.size->O P n ops rest N Z (upd f d (.tuple #[.bool true,.int .i64 p.1,.int .i64 p.2])) w'):
 O P n ops (ZO d (.next x false) tr pos after::rest) N Z f w:=by
 have hlt:=ho.lt;obtain ⟨hn,ens,clock,seen,ds,hb,he,hr,hs,hds,hnd,rfl⟩:=ho;have h3:execOp (ev n f) (ZO d (.next x false) tr pos after)=(do pure (.value (<-Instr.next (ev n f x) false tr))):=rfl;have hdn:ds.Nodup:=nodup_of_map _ hnd;have hen:ens.toList.Nodup:=nodup_of_map _ he.born;have hsee:∀e:MapEntry,seen.contains e.born=true↔e.born∈ds.map (·.born):=by
  intro e;rw[<-hs]
  simp
 rcases run_next_at (P:=P) w tr r b clock clock seen ens clock hr hb he.old (Nat.le_refl _) with ⟨h5,hrun⟩|⟨e,hel,w1,hw1,hrun⟩
 ·refine O.val rfl rfl ?_ (h0 ?_)
  ·rw [h3,Sem.run_bind,hx,hrun];rfl
  ·rw [<-he.pairs]
   refine List.Perm.map _ ((List.perm_ext_iff_of_nodup hdn hen).2 λe=>⟨λq=>hds e q,λq=>?_⟩);have h6:leftOf ens seen=#[]:=Array.eq_empty_of_size_eq_zero h5;have h7:e∉(leftOf ens seen).toList:=by rw[h6];simp
   unfold leftOf at h7;rw[Array.toList_filter,List.mem_filter] at h7;have h8:seen.contains e.born=true:=by
    cases hc:seen.contains e.born with
    |true=>rfl
    |false=>exact absurd ⟨q,by rw[hc];rfl⟩ h7
   obtain ⟨u,hu,hub⟩:=List.mem_map.1 ((hsee e).1 h8);have:u=e:=born_inj he.born (hds u hu) q hub;exact this ▸ hu
 ·unfold leftOf at hel
  rw[Array.toList_filter,List.mem_filter] at hel;obtain ⟨hem,hns⟩:=hel;have hnm:e.born∉ds.map (·.born):=λq=>by
   rw[(hsee e).2 q] at hns
   simp at hns
  have hi:=he.ints e hem;have hr1:w1.heap[r]? =some (.mapIter (some b) clock seen clock):=by rcases hw1 with rfl|rfl<;>exact hr
  have hb1:w1.heap[b]? =some (.map ens clock):=by rcases hw1 with rfl|rfl<;>exact hb
  have hz1:w1.heap=w.heap:=by rcases hw1 with rfl|rfl<;>rfl
  have hext:Ext (λi=>i=r) w (Go.ChangeMaps.setBlock w1 r (.mapIter (some b) clock (seen.push e.born) clock)):=by
   refine ⟨?_,?_,?_,?_,λi _ hi=>?_⟩
   ·rcases hw1 with rfl|rfl<;>rfl
   ·rcases hw1 with rfl|rfl<;>rfl
   ·rcases hw1 with rfl|rfl<;>rfl
   ·simp [Go.ChangeMaps.setBlock,hz1]
   ·rw [<-hz1]
    exact (MapKept.heap_set hr1).2 i hi
  have hlen:(ds.map pairOf).length<es.length:=by
   rw[<-he.pairs,List.length_map,List.length_map];have hsub:(e::ds).length<=ens.toList.length:=len_of_sub (List.nodup_cons.2 ⟨λq=>hnm (List.mem_map.2 ⟨e,q,rfl⟩),hdn⟩) (by
    intro u hu;rcases List.mem_cons.1 hu with rfl|hu
    ·exact hem
    ·exact hds u hu)
   exact hsub
  have hpe:pairOf e∈es:=by rw[<-he.pairs];exact List.mem_map.2 ⟨e,hem,rfl⟩
  have hpn:pairOf e∉ds.map pairOf:=λq=>by
   obtain ⟨u,hu,huq⟩:=List.mem_map.1 q;have hk:=he.keys;rw[<-he.pairs,List.map_map] at hk;have hue:u≠e:=λq2=>hnm (List.mem_map.2 ⟨u,hu,by rw[q2]⟩)
   have hpw:=List.pairwise_map.1 hk;obtain ⟨i,hi1,hi2⟩:=List.getElem_of_mem (hds u hu);obtain ⟨j,hj1,hj2⟩:=List.getElem_of_mem hem;have hij:i≠j:=λq3=>hue (by subst q3;exact hi2.symm.trans hj2)
   rcases Nat.lt_or_gt_of_ne hij with q4|q4
   ·have:=List.pairwise_iff_getElem.1 hpw i j hi1 hj1 q4
    rw[hi2,hj2] at this;exact this (congrArg Prod.fst huq)
   ·have:=List.pairwise_iff_getElem.1 hpw j i hj1 hi1 q4
    rw[hi2,hj2] at this;exact this (congrArg Prod.fst huq).symm
  refine O.val (v:=.tuple #[.bool true,.int .i64 (pairOf e).1,.int .i64 (pairOf e).2]) rfl rfl ?_ (h1 (pairOf e) (Go.ChangeMaps.setBlock w1 r (.mapIter (some b) clock (seen.push e.born) clock)) hpe hpn hlen ⟨hn,ens,clock,seen.push e.born,ds++[e],((MapKept.heap_set hr1).2 b (Ne.symm hn)).trans hb1,he,(MapKept.heap_set hr1).1,by simp[hs],λu hu=>?_,?_,by simp⟩ hext (by simp[Go.ChangeMaps.setBlock,hz1]))
  ·rw [h3,Sem.run_bind,hx,hrun]
   rw[hi.1,hi.2]
   rfl
  ·rcases List.mem_append.1 hu with hu|hu
   ·exact hds u hu
   ·rw [List.mem_singleton.1 hu];exact hem
  ·rw [List.map_append]
   refine List.nodup_append.2 ⟨hnd,by simp,λq hq q2 hq2 e2=>?_⟩;simp only[List.map_cons,List.map_nil,List.mem_singleton] at hq2;rw[e2,hq2] at hq;exact hnm hq
theorem O.entryM {p:Int×Int}(hx:ev n f x=.pointer (some ⟨r,0,none⟩))(ho:IterO w r b es (done++[p]))(h:O P n ops rest N Z (upd f d (.tuple #[.int .i64 p.1,.int .i64 p.2])) w):
 O P n ops (ZO d (.entry x) tr pos after::rest) N Z f w:=by
 obtain ⟨hn,ens,clock,seen,ds,hb,he,hr,hs,hds,hnd,hdn⟩:=ho;have hne:ds≠[]:=by rintro rfl;simp at hdn
 have hsplit:=List.dropLast_concat_getLast hne;have hlast:pairOf (ds.getLast hne)=p:=by
  rw[<-hsplit,List.map_append] at hdn;exact (List.append_inj' hdn rfl).2|>λq=>by simpa using q.symm
 have hseen:seen=((ds.dropLast.map (·.born)).toArray).push (ds.getLast hne).born:=by
  apply Array.ext'
  rw[hs,Array.toList_push]
  conv=>lhs;rw[<-hsplit]
  simp
 rw[hseen] at hr;have hem:=hds _ (List.getLast_mem hne);have hi:=he.ints _ hem;refine O.val rfl rfl ?_ h;have h3:execOp (ev n f) (ZO d (.entry x) tr pos after)=(do pure (.value (<-Instr.entry (ev n f x)))):=rfl;rw[h3,Sem.run_bind,hx,run_entry_at w r b clock _ ens clock (ds.getLast hne) hr hb hem he.born,hi.1,hi.2,<-hlast]
 rfl
end
section
variable
 {d:Nat}{x y:Operand}{t t' tr:TypeId}{pos:String}{after:Array Edge}
theorem O.maxI {a b:Int}(hx:ev n f x=i64 a)(hy:ev n f y=i64 b)(h:O P n ops rest N Z (upd f d (i64 (max a b))) w):
 O P n ops (ZO d (.call {callee:=.builtin .max,args:=[x,y].toArray,argTypes:=[t,t'].toArray}) tr pos after::rest) N Z f w:=by
 refine O.val rfl rfl ?_ h;have e:(if a<b then b else a)=max a b:=by rw[Int.max_def];split<;>split<;>omega
 have h3:(execOp (ev n f) (ZO d (.call {callee:=.builtin .max,args:=[x,y].toArray,argTypes:=[t,t'].toArray}) tr pos after)).run P w=((Builtin.max_ #[t,t'] tr #[ev n f x,ev n f y]).run P w).andThen (λv w=>.ok (.value v) w):=by
  simp[execOp,resolve,invoke,builtin]
 rw[h3,hx,hy];have h4:(Builtin.max_ #[t,t'] tr #[i64 a,i64 b]).run P w=.ok (i64 (max a b)) w:=by
  simp[Builtin.max_,Builtin.max2,i64,e]
 rw[h4]
 rfl
end
end Go.Pn
end
