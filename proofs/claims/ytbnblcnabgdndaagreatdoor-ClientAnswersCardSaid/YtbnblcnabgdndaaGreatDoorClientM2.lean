/-
 Calls as texts and bytes: what they are; a text read again. No condition.
-/
import Derived.Scope
import Derived.Lib.SplitLaws
import Derived.Test.YtbnblcnabgdndaaGreatDoorClientM1
section
namespace Go.Pn.Cl
open Go Go.Pn Go.Lib
abbrev Str:=List UInt8
structure Call where
 op:Int
 key:Str
 other:Str
 item:Str
 qty:Int
 data:Str
theorem Call.ext' {a b:Call}(h1:a.op=b.op)(h2:a.key=b.key)(h3:a.other=b.other)(h4:a.item=b.item)(h5:a.qty=b.qty)(h6:a.data=b.data):a=b:=by
 cases a;cases b;simp_all
def rows:List (Str×Str):=[([],[]),([97,100,100],[107,113,105]),([115,101,116],[107,113,105]),([114,101,109,111,118,101],[107,105]),([103,101,116],[107]),([99,108,101,97,114],[107]),([119,105,115,104],[107,111,105]),([108,111,103,105,110],[107,111]),([100,101,108,105,118,101,114],[100]),([109,101,114,103,101],[]),([100,114,97,105,110],[]),([99,108,111,115,101],[])]
def isOp (o:Int):Bool:=decide (1<=o∧o<=11)
def word (o:Int):Str:=if isOp o=true then (rows.getD o.toNat ([],[])).1 else []
def parts (o:Int):Str:=if isOp o=true then (rows.getD o.toNat ([],[])).2 else []
theorem op_all {p:Int->Prop}[∀o,Decidable (p o)](h:∀n,n<12->1<=n->p (n:Nat)){o:Int}(ho:isOp o=true):p o:=by
 have h1:=of_decide_eq_true ho;have:=h o.toNat (by omega) (by omega);rwa [Int.toNat_of_nonneg (by omega)] at this
def tags:Str:=[107,111,113,105,100]
theorem parts_tags {o:Int}(ho:isOp o=true):∀x∈parts o,x∈tags:=op_all (p:=λo=>∀x∈parts o,x∈tags) (by decide+kernel) ho
theorem parts_ascii {o:Int}(ho:isOp o=true):∀x∈parts o,x.toNat<128:=op_all (p:=λo=>∀x∈parts o,x.toNat<128) (by decide+kernel) ho
theorem parts_len {o:Int}(ho:isOp o=true):(parts o).length<=3:=op_all (p:=λo=>(parts o).length<=3) (by decide+kernel) ho
theorem parts_nodup {o:Int}(ho:isOp o=true):(parts o).Nodup:=op_all (p:=λo=>(parts o).Nodup) (by decide+kernel) ho
theorem word_plain {o:Int}(ho:isOp o=true):∀x∈word o,x≠32∧x≠10:=op_all (p:=λo=>∀x∈word o,x≠32∧x≠10) (by decide+kernel) ho
theorem word_len {o:Int}(ho:isOp o=true):1<=(word o).length∧(word o).length<=7:=op_all (p:=λo=>1<=(word o).length∧(word o).length<=7) (by decide+kernel) ho
theorem word_inj {o o':Int}(h:isOp o=true)(h':isOp o'=true)(e:word o=word o'):o=o':=by
 have key:∀n,n<12->1<=n->∀m,m<12->1<=m->word (n:Nat)=word (m:Nat)->n=m:=by decide+kernel
 have h1:=of_decide_eq_true h;have h2:=of_decide_eq_true h';have:=key o.toNat (by omega) (by omega) o'.toNat (by omega) (by omega) (by rwa [Int.toNat_of_nonneg (by omega),Int.toNat_of_nonneg (by omega)])
 omega
theorem parts_last {o:Int}(ho:isOp o=true):∀i,i<3->∀x,(parts o)[i]? =some x->(x=105∨x=100)->(parts o).drop (i+1)=[]:=op_all (p:=λo=>∀i,i<3->∀x,(parts o)[i]? =some x->(x=105∨x=100)->(parts o).drop (i+1)=[]) (λn h1 h2 i hi x=>by
 intro hx;have key:∀n,n<12->1<=n->∀i,i<3->((parts (n:Nat))[i]? =some 105∨(parts (n:Nat))[i]? =some 100)->(parts (n:Nat)).drop (i+1)=[]:=by decide+kernel
 rintro (rfl|rfl)
 ·exact key n h1 h2 i hi (.inl hx)
 ·exact key n h1 h2 i hi (.inr hx)) ho
def between (least:Nat)(s:Str):Bool:=s.all (λc=>decide (least<=c.toNat∧c.toNat<=126))&&decide (1<=s.length∧s.length<=100)
theorem between_iff {n:Nat}{s:Str}:between n s=true↔(∀c∈s,n<=c.toNat∧c.toNat<=126)∧1<=s.length∧s.length<=100:=by
 unfold between;simp only[Bool.and_eq_true,List.all_eq_true,decide_eq_true_eq]
def right (c:Call)(x:UInt8):Bool:=if x=107 then between 33 c.key else if x=111 then between 33 c.other else if x=105 then between 32 c.item else true
def zero (c:Call)(x:UInt8):Bool:=if x=107 then decide (c.key=[]) else if x=111 then decide (c.other=[]) else if x=105 then decide (c.item=[]) else if x=113 then decide (c.qty=0) else decide (c.data=[])
def part (c:Call)(x:UInt8):Bool:=if x∈parts c.op then right c x else zero c x
def valid (c:Call):Bool:=isOp c.op&&(decide (c.data.length<=65536)&&tags.all (part c))
theorem valid_iff {c:Call}:valid c=true↔isOp c.op=true∧c.data.length<=65536∧∀x∈tags,part c x=true:=by
 unfold valid;simp only[Bool.and_eq_true,List.all_eq_true,decide_eq_true_eq]
def dig (n:Nat):UInt8:=UInt8.ofNat (if n<10 then 48+n else 87+n)
def hx (b:UInt8):Str:=[dig (b.toNat/16),dig (b.toNat%16)]
def hex (l:Str):Str:=l.flatMap hx
theorem hex_len (l:Str):(hex l).length=2*l.length:=by
 induction l with
 |nil=>rfl
 |cons a l ih=>show (hx a++hex l).length=_;rw[List.length_append,ih,List.length_cons];show 2+_=_;omega
def piece (c:Call)(x:UInt8):Str:=if x=107 then c.key else if x=111 then c.other else if x=113 then itoa c.qty else if x=105 then c.item else if c.data=[] then [45] else hex c.data
def text (c:Call):Str:=Vc.jn (word c.op::(parts c.op).map (piece c))
def InQ (c:Call):Prop:= -9223372036854775808<=c.qty∧c.qty<=9223372036854775807
theorem dig_plain:∀n,n<16->(dig n).toNat≠32∧(dig n).toNat≠10∧(dig n).toNat≠45:=by decide+kernel
theorem hex_mem {l:Str}{x:UInt8}(h:x∈hex l):∃n,n<16∧x=dig n:=by
 obtain ⟨b,_,hb⟩:=List.mem_flatMap.1 h;have hl:=b.toNat_lt;rcases List.mem_cons.1 hb with rfl|hb
 ·exact ⟨_,by omega,rfl⟩
 ·rw [List.mem_singleton.1 hb];exact ⟨_,by omega,rfl⟩
theorem itoa_mem {n:Int}{x:UInt8}(h:x∈itoa n):x.toNat=45∨(48<=x.toNat∧x.toNat<=57):=by
 unfold itoa at h
 split at h
 ·rcases List.mem_cons.1 h with rfl|h
  ·exact .inl rfl
  ·exact .inr (Dt.dec_digit _ _ h)
 ·exact .inr (Dt.dec_digit _ _ h)
theorem ne_of_nat {x:UInt8}{n:Nat}(h:x.toNat≠n)(hn:n<256):x≠UInt8.ofNat n:=λe=>h (by rw[e,UInt8.toNat_ofNat'];omega)
theorem piece_plain {c:Call}(hv:valid c=true){x:UInt8}(hx:x∈parts c.op)(h5:x≠105):∀y∈piece c x,y≠32:=by
 obtain ⟨ho,_,hp⟩:=valid_iff.1 hv;have ht:=parts_tags ho x hx;have hr:=hp x ht;unfold part at hr;rw[if_pos hx] at hr;intro y hy;unfold piece at hy;unfold right at hr;have k:∀{n:Nat},y.toNat≠32->y≠32:=λh=>ne_of_nat h (by decide)
 split at hy
 ·rw [if_pos (by assumption)] at hr
  exact k (n:=0) (by have:=(between_iff.1 hr).1 y hy;omega)
 ·rw [if_neg (by assumption)] at hr
  split at hy
  ·rw [if_pos (by assumption)] at hr
   exact k (n:=0) (by have:=(between_iff.1 hr).1 y hy;omega)
  ·split at hy
   ·exact k (n:=0) (by have:=itoa_mem hy;omega)
   ·split at hy
    ·rw [List.mem_singleton.1 hy];decide
    ·obtain ⟨n,hn,rfl⟩:=hex_mem hy
     exact k (n:=0) (dig_plain n hn).1
theorem piece_ln {c:Call}(hv:valid c=true){x:UInt8}(hx:x∈parts c.op):∀y∈piece c x,y≠10:=by
 obtain ⟨ho,_,hp⟩:=valid_iff.1 hv;have ht:=parts_tags ho x hx;have hr:=hp x ht;unfold part at hr;rw[if_pos hx] at hr;intro y hy;unfold piece at hy;unfold right at hr;have k:∀{n:Nat},y.toNat≠10->y≠10:=λh=>ne_of_nat h (by decide)
 split at hy
 ·rw [if_pos (by assumption)] at hr
  exact k (n:=0) (by have:=(between_iff.1 hr).1 y hy;omega)
 ·rw [if_neg (by assumption)] at hr
  split at hy
  ·rw [if_pos (by assumption)] at hr
   exact k (n:=0) (by have:=(between_iff.1 hr).1 y hy;omega)
  ·rw [if_neg (by assumption)] at hr
   split at hy
   ·exact k (n:=0) (by have:=itoa_mem hy;omega)
   ·split at hy
    ·rw [if_pos (by assumption)] at hr
     exact k (n:=0) (by have:=(between_iff.1 hr).1 y hy;omega)
    ·split at hy
     ·rw [List.mem_singleton.1 hy];decide
     ·obtain ⟨n,hn,rfl⟩:=hex_mem hy
      exact k (n:=0) (dig_plain n hn).2.1
def ct (s:Str):Str×Str:=if 0<=indexByte s 32 then (s.take (indexByte s 32).toNat,s.drop ((indexByte s 32).toNat+1)) else (s,[])
theorem ix_at:∀(a b:Str),(∀c∈a,c≠32)->indexByte (a++32::b) 32=a.length:=by
 intro a
 induction a with
 |nil=>intro b _;rfl
 |cons c a ih=>
  intro b h;have hc:(c==32)=false:=by simpa using h c (by simp)
  have ih2:=ih b (λx hx=>h x (by simp[hx]));show (if (c==32)=true then (0:Int) else if indexByte (a++32::b) 32== -1 then-1 else indexByte (a++32::b) 32+1)=_;rw[hc,ih2];simp only[Bool.false_eq_true,if_false];have h4:((a.length:Int)== -1)=false:=by
   cases h5:((a.length:Int)== -1) with
   |false=>rfl
   |true=>simp at h5
  rw[h4]
  simp
theorem ct_at {a b:Str}(h:∀c∈a,c≠32):ct (a++32::b)=(a,b):=by
 unfold ct;rw[ix_at a b h,if_pos (by omega)]
 simp[List.drop_append]
theorem ct_no {a:Str}(h:∀c∈a,c≠32):ct a=(a,[]):=by
 unfold ct;rw[if_neg λq=>?_];have h1:=Dt.index_ge a 32;obtain ⟨h2,_⟩:=indexByte_some (l:=a) (c:=32) (o:=(indexByte a 32).toNat) (by omega);exact h 32 (List.mem_of_getElem? h2) rfl
theorem ct_len (s:Str):(ct s).1.length<=s.length∧(ct s).2.length<=s.length:=by
 unfold ct
 split
 ·simp;omega
 ·exact ⟨Nat.le_refl _,Nat.zero_le _⟩
def rem (c:Call)(ps:Str):Str:=Vc.jn (ps.map (piece c))
theorem jn_nil:Vc.jn []=[]:=rfl
theorem jn_two (a b:Str)(r:List Str):Vc.jn (a::b::r)=a++32::Vc.jn (b::r):=by
 rw[Vc.jn_cons,Vc.jn_cons,List.map_cons,List.flatten_cons]
 simp
theorem jn_one (a:Str):Vc.jn [a]=a:=by rw[Vc.jn_cons];simp
theorem ct_jn {a:Str}(h:∀c∈a,c≠32):∀r:List Str,ct (Vc.jn (a::r))=(a,Vc.jn r)
 |[]=>by rw[jn_one,ct_no h];rfl
 |b::r=>by rw[jn_two,ct_at h]
theorem ct_rem {c:Call}(hv:valid c=true){x:UInt8}{ps:Str}(hx:x∈parts c.op)(h5:x≠105):ct (rem c (x::ps))=(piece c x,rem c ps):=ct_jn (piece_plain hv hx h5) _
theorem ct_text {c:Call}(hv:valid c=true):ct (text c)=(word c.op,rem c (parts c.op)):=ct_jn (λy hy=>(word_plain (valid_iff.1 hv).1 y hy).1) _
theorem rem_one (c:Call)(x:UInt8):rem c [x]=piece c x:=jn_one _
def cut (d:Call)(ps:Str):Call:=⟨d.op,if 107∈ps then d.key else [],if 111∈ps then d.other else [],if 105∈ps then d.item else [],if 113∈ps then d.qty else 0,if 100∈ps then d.data else []⟩
theorem cut_all {d:Call}(hv:valid d=true):cut d (parts d.op)=d:=by
 obtain ⟨ho,_,hp⟩:=valid_iff.1 hv;have z:∀x∈tags,x∉parts d.op->zero d x=true:=λx hx hn=>by
  have:=hp x hx;unfold part at this;rwa [if_neg hn] at this
 refine Call.ext' rfl ?_ ?_ ?_ ?_ ?_
 ·show (if (107:UInt8)∈parts d.op then d.key else [])=d.key
  split
  ·rfl
  ·rename_i h;exact (of_decide_eq_true (z 107 (by decide) h)).symm
 ·show (if (111:UInt8)∈parts d.op then d.other else [])=d.other
  split
  ·rfl
  ·rename_i h;exact (of_decide_eq_true (z 111 (by decide) h)).symm
 ·show (if (105:UInt8)∈parts d.op then d.item else [])=d.item
  split
  ·rfl
  ·rename_i h;exact (of_decide_eq_true (z 105 (by decide) h)).symm
 ·show (if (113:UInt8)∈parts d.op then d.qty else 0)=d.qty
  split
  ·rfl
  ·rename_i h;exact (of_decide_eq_true (z 113 (by decide) h)).symm
 ·show (if (100:UInt8)∈parts d.op then d.data else [])=d.data
  split
  ·rfl
  ·rename_i h;exact (of_decide_eq_true (z 100 (by decide) h)).symm
def Track (s:Str)(o:Int)(ps qs:Str)(rest:Str)(c:Call):Prop:=c.op=o∧∀d,valid d=true->InQ d->text d=s->d.op=o∧(qs≠[]->rest=rem d qs)∧c=cut d ps∧∀x∈qs,x∈parts d.op
theorem cut_key {d:Call}{ps:Str}:cut d (ps++[107])={cut d ps with key:=d.key}:=by unfold cut;simp
theorem cut_other {d:Call}{ps:Str}:cut d (ps++[111])={cut d ps with other:=d.other}:=by unfold cut;simp
theorem cut_item {d:Call}{ps:Str}:cut d (ps++[105])={cut d ps with item:=d.item}:=by unfold cut;simp
theorem cut_qty {d:Call}{ps:Str}:cut d (ps++[113])={cut d ps with qty:=d.qty}:=by unfold cut;simp
theorem cut_data {d:Call}{ps:Str}:cut d (ps++[100])={cut d ps with data:=d.data}:=by unfold cut;simp
section
variable {s rest:Str}{o:Int}{ps qs:Str}{c:Call}
theorem Track.start {s:Str}{o:Int}(ho:isOp o=true)(h:word o=(ct s).1):Track s o [] (parts o) (ct s).2 ⟨o,[],[],[],0,[]⟩:=by
 refine ⟨rfl,λd hv _ hd=>?_⟩;rw[<-hd,ct_text hv] at h;have e:=word_inj ho (valid_iff.1 hv).1 h;subst e;rw[<-hd,ct_text hv];exact ⟨rfl,λ_=>rfl,rfl,λx hx=>hx⟩
theorem Track.key (h:Track s o ps (107::qs) rest c):Track s o (ps++[107]) qs (ct rest).2 {c with key:=(ct rest).1}:=by
 refine ⟨h.1,λd hv hq hd=>?_⟩;obtain ⟨h1,h2,h3,h4⟩:=h.2 d hv hq hd;rw[h2 (by simp),ct_rem hv (h4 _ (.head _)) (by decide),cut_key,h3];exact ⟨h1,λ_=>rfl,rfl,λx hx=>h4 x (.tail _ hx)⟩
theorem Track.other (h:Track s o ps (111::qs) rest c):Track s o (ps++[111]) qs (ct rest).2 {c with other:=(ct rest).1}:=by
 refine ⟨h.1,λd hv hq hd=>?_⟩;obtain ⟨h1,h2,h3,h4⟩:=h.2 d hv hq hd;rw[h2 (by simp),ct_rem hv (h4 _ (.head _)) (by decide),cut_other,h3];exact ⟨h1,λ_=>rfl,rfl,λx hx=>h4 x (.tail _ hx)⟩
theorem Track.qty {n:Int}(h:Track s o ps (113::qs) rest c)(hn:∀q,-9223372036854775808<=q∧q<=9223372036854775807->(ct rest).1=itoa q->n=q):Track s o (ps++[113]) qs (ct rest).2 {c with qty:=n}:=by
 refine ⟨h.1,λd hv hq hd=>?_⟩;obtain ⟨h1,h2,h3,h4⟩:=h.2 d hv hq hd;have h5:=ct_rem hv (h4 _ (.head _)) (by decide) (ps:=qs);rw[<-h2 (by simp)] at h5;have h6:=hn d.qty hq (by rw[h5];rfl);rw[h5,cut_qty,h6,h3];exact ⟨h1,λ_=>rfl,rfl,λx hx=>h4 x (.tail _ hx)⟩
theorem Track.item (h:Track s o ps [105] rest c):Track s o (ps++[105]) [] rest {c with item:=rest}:=by
 refine ⟨h.1,λd hv hq hd=>?_⟩;obtain ⟨h1,h2,h3,h4⟩:=h.2 d hv hq hd;have h5:rest=d.item:=by rw[h2 (by simp),rem_one];rfl
 exact ⟨h1,λq=>absurd rfl q,by rw[cut_item,h5,h3],λx hx=>by cases hx⟩
theorem Track.data {l:Str}(h:Track s o ps [100] rest c)(hl:∀x:Str,rest=(if x=[] then [45] else hex x)->l=x):Track s o (ps++[100]) [] rest {c with data:=l}:=by
 refine ⟨h.1,λd hv hq hd=>?_⟩;obtain ⟨h1,h2,h3,h4⟩:=h.2 d hv hq hd;have h5:rest=(if d.data=[] then [45] else hex d.data):=by rw[h2 (by simp),rem_one];rfl
 exact ⟨h1,λq=>absurd rfl q,by rw[cut_data,hl _ h5,h3],λx hx=>by cases hx⟩
theorem Track.end (h:Track s o (parts o) [] rest c){d:Call}(hv:valid d=true)(hq:InQ d)(hd:text d=s):c=d:=by
 obtain ⟨h1,_,h3,_⟩:=h.2 d hv hq hd;rw[h3,<-h1,cut_all hv]
end
theorem hex_ne {b:UInt8}{l:Str}:hex (b::l)≠[45]:=by
 intro h;have:=congrArg List.length h;rw[hex_len] at this
 simp at this
 omega
theorem atoi_itoa {q:Int}(h: -9223372036854775808<=q∧q<=9223372036854775807):atoiAll (itoa q)=.ok q:=by
 unfold itoa
 split
 ·rename_i h0
  have hp:parseMag (decDigits q.natAbs)=.ok q.natAbs:=by
   unfold parseMag;rw[if_neg (Dt.dec_ne _)];have:=Dt.parse_dec q.natAbs 0 [] (by omega);rw[List.append_nil,Nat.zero_mul,Nat.zero_add] at this;rw[this]
   rfl
  rw[atoiAll_minus,hp];show (if 9223372036854775808<q.natAbs then NumEnd.range else .ok (-(q.natAbs:Int)))=_;rw[if_neg (by omega)]
  congr 1
  omega
 ·rw [Dt.atoi_dec (by omega)]
  congr 1
  omega
end Go.Pn.Cl
end
section
namespace Go.Pn.Cl
open Go Go.Pn Go.Lib
theorem word_no {o:Int}(h:isOp o=false):word o=[]:=by unfold word;rw[h];rfl
theorem parts_no {o:Int}(h:isOp o=false):parts o=[]:=by unfold parts;rw[h];rfl
theorem op_row {o:Int}(h:isOp o=true):∃hl:o.toNat<rows.length,rows[o.toNat]=(word o,parts o):=by
 have h1:=of_decide_eq_true h;have hl:o.toNat<rows.length:=by show _<12;omega
 refine ⟨hl,?_⟩;unfold word parts;rw[if_pos h,if_pos h,List.getD_eq_getElem?_getD,List.getElem?_eq_getElem hl]
 rfl
theorem ascii (o:Int):∀c∈parts o,c.toNat<128:=by
 cases h:isOp o with
 |true=>exact parts_ascii h
 |false=>rw[parts_no h];intro c hc;cases hc
def opOf (s:Str):Nat:=((List.range 12).find? (λk=>decide (0<k)&&(rows.getD k ([],[])).1==s)).getD 0
theorem row_at {k:Nat}(h1:0<k)(h2:k<12):isOp k=true∧word k=(rows[k]'h2).1:=by
 have ho:isOp k=true:=dT (by omega);obtain ⟨hl,e⟩:=op_row ho;exact ⟨ho,by rw[show word (k:Int)=(word k,parts k).1 from rfl,<-e];rfl⟩
theorem opOf_some {s:Str}{k:Nat}(h1:0<k)(h2:k<12)(h:(rows[k]'h2).1=s):opOf s=k:=by
 unfold opOf;cases hf:(List.range 12).find? (λk=>decide (0<k)&&(rows.getD k ([],[])).1==s) with
 |none=>
  have:=List.find?_eq_none.1 hf k (List.mem_range.2 h2);rw[List.getD_eq_getElem?_getD,List.getElem?_eq_getElem h2] at this
  simp[h1,h] at this
 |some j=>
  have h3:=List.find?_some hf;have h4:=List.mem_range.1 (List.mem_of_find?_eq_some hf);rw[List.getD_eq_getElem?_getD,List.getElem?_eq_getElem h4] at h3
  simp at h3
  have a1:=row_at h1 h2;have a2:=row_at h3.1 h4;have:=word_inj a1.1 a2.1 (by rw[a1.2,a2.2,h,h3.2]);show j=k
  omega
theorem opOf_none {s:Str}(h:∀k,0<k->∀h2:k<12,(rows[k]'h2).1≠s):opOf s=0:=by
 unfold opOf;cases hf:(List.range 12).find? (λk=>decide (0<k)&&(rows.getD k ([],[])).1==s) with
 |none=>rfl
 |some j=>
  have h3:=List.find?_some hf;have h4:=List.mem_range.1 (List.mem_of_find?_eq_some hf);rw[List.getD_eq_getElem?_getD,List.getElem?_eq_getElem h4] at h3
  simp at h3
  exact absurd h3.2 (h j h3.1 h4)
theorem opOf_lt (s:Str):opOf s<12:=by
 unfold opOf;cases hf:(List.range 12).find? (λk=>decide (0<k)&&(rows.getD k ([],[])).1==s) with
 |none=>decide
 |some j=>exact List.mem_range.1 (List.mem_of_find?_eq_some hf)
theorem opOf_word {s:Str}(h:opOf s≠0):isOp (opOf s)=true∧word (opOf s)=s:=by
 have hl:=opOf_lt s;have hp:0<opOf s:=by omega
 obtain ⟨a1,a2⟩:=row_at hp hl;refine ⟨a1,a2.trans ?_⟩
 by_cases e:(rows[opOf s]'hl).1=s
 ·exact e
 ·exfalso
  apply h
  cases hf:(List.range 12).find? (λk=>decide (0<k)&&(rows.getD k ([],[])).1==s) with
  |none=>unfold opOf;rw[hf];rfl
  |some j=>
   have h3:=List.find?_some hf;have h4:=List.mem_range.1 (List.mem_of_find?_eq_some hf);rw[List.getD_eq_getElem?_getD,List.getElem?_eq_getElem h4] at h3
   simp at h3
   have hj:opOf s=j:=by unfold opOf;rw[hf];rfl
   exact absurd (by simp only[hj];exact h3.2) e
theorem opOf_of {o:Int}(h:isOp o=true):(opOf (word o):Int)=o:=by
 have h1:=of_decide_eq_true h;obtain ⟨hl,e⟩:=op_row h;have:=opOf_some (s:=word o) (k:=o.toNat) (by omega) hl (by rw[e])
 omega
def has (o:Int)(x:UInt8):Bool:=decide (x∈parts o)
theorem has_of {p:Int->Bool}{x:UInt8}(h0:∀o,isOp o=false->p o=false)(h:∀n,n<12->1<=n->p (n:Nat)=has (n:Nat) x)(o:Int):p o=has o x:=by
 cases ho:isOp o with
 |true=>exact op_all (p:=λo=>p o=has o x) h ho
 |false=>rw[h0 o ho];unfold has;rw[parts_no ho];rfl
theorem getD_at {s:Str}{k:Nat}(hk:k<s.length):s.getD ((k:Int)).toNat 0=s[k]:=by
 rw[Int.toNat_natCast,List.getD_eq_getElem?_getD,List.getElem?_eq_getElem hk]
 rfl
theorem between_ii {n:BitVec 8}{s:Str}{k:Nat}(hk:k<s.length):((s.getD ((k:Int)).toNat 0).toBitVec<n∨126#8<(s.getD ((k:Int)).toNat 0).toBitVec)↔¬(n.toNat<=s[k].toNat∧s[k].toNat<=126):=by
 rw[getD_at hk,BitVec.lt_def,BitVec.lt_def,UInt8.toNat_toBitVec];show s[k].toNat<n.toNat∨126<s[k].toNat↔_
 omega
theorem between_in {n:BitVec 8}{s:Str}{k:Nat}(hk:k<s.length)(h:¬((s.getD ((k:Int)).toNat 0).toBitVec<n∨126#8<(s.getD ((k:Int)).toNat 0).toBitVec)):n.toNat<=s[k].toNat∧s[k].toNat<=126:=by
 rw[between_ii hk] at h;exact Decidable.of_not_not h
theorem between_no {n:BitVec 8}{s:Str}{k:Nat}(hk:k<s.length)(h:(s.getD ((k:Int)).toNat 0).toBitVec<n∨126#8<(s.getD ((k:Int)).toNat 0).toBitVec):false=between n.toNat s:=by
 symm
 rw[Bool.eq_false_iff];intro hb;exact (between_ii hk).1 h ((between_iff.1 hb).1 s[k] (List.getElem_mem _))
theorem between_yes {n:Nat}{s:Str}(h:∀c∈s,n<=c.toNat∧c.toNat<=126){b:Bool}(hb:b=decide (1<=s.length∧s.length<=100)):b=between n s:=by
 unfold between;rw[hb,List.all_eq_true.2 λc hc=>dT (h c hc)]
 rfl
theorem not_op {o:Int}(h:isOp o=false):¬(1<=o∧o<=11):=of_decide_eq_false h
theorem has_k (o:Int):decide (o≥1∧o<=7)=has o 107:=has_of (p:=λo=>decide (o≥1∧o<=7)) (λo h=>dF (by have:=not_op h;omega)) (by decide+kernel) o
theorem has_o (o:Int):decide (o=6∨o=7)=has o 111:=has_of (p:=λo=>decide (o=6∨o=7)) (λo h=>dF (by have:=not_op h;omega)) (by decide+kernel) o
theorem has_i (o:Int):decide (((o=1∨o=2)∨o=3)∨o=6)=has o 105:=has_of (p:=λo=>decide (((o=1∨o=2)∨o=3)∨o=6)) (λo h=>dF (by have:=not_op h;omega)) (by decide+kernel) o
theorem has_q (o:Int):decide (o=1∨o=2)=has o 113:=has_of (p:=λo=>decide (o=1∨o=2)) (λo h=>dF (by have:=not_op h;omega)) (by decide+kernel) o
theorem has_d (o:Int):decide (o=8)=has o 100:=has_of (p:=λo=>decide (o=8)) (λo h=>dF (by have:=not_op h;omega)) (by decide+kernel) o
def words:List Str:=rows.map (·.1)
theorem word_cells {o:Int}(h:isOp o=true):(words.map str)[0+o.toNat*1]? =some (str (word o)):=by
 obtain ⟨h1,e⟩:=op_row h;have h2:rows[o.toNat]? =some (word o,parts o):=by rw[List.getElem?_eq_getElem h1,e]
 rw[Nat.zero_add,Nat.mul_one,List.getElem?_map,words,List.getElem?_map,h2]
 rfl
def InI64 (n:Int):Prop:= -9223372036854775808<=n∧n<=9223372036854775807
theorem sat_in (l:Str):InI64 (atoiSat l):=by unfold InI64 atoiSat;split<;>omega
theorem mem_ix {l:Str}{c:UInt8}:0<=indexByte l c↔c∈l:=by
 constructor
 ·intro h
  obtain ⟨h2,_⟩:=indexByte_some (l:=l) (c:=c) (o:=(indexByte l c).toNat) (by omega);exact List.mem_of_getElem? h2
 ·intro h
  apply Decidable.byContradiction
  intro h2;have h3:indexByte l c= -1:=by have:=Dt.index_ge l c;omega
  obtain ⟨k,hk,e⟩:=List.mem_iff_getElem.1 h;exact indexByte_none h3 k (by rw[List.getElem?_eq_getElem hk,e])
theorem index_one:∀(l:Str) (c:UInt8),Lib.index l [c]=indexByte l c
 |[],_=>rfl
 |b::l,c=>by
  have h:([c]:Str).isPrefixOf (b::l)=(b==c):=by
   show (c==b&&true)=_;rw[Bool.and_true,Bool.beq_comm]
  unfold Lib.index indexByte;rw[h,index_one l c]
theorem cut_ct (l:Str):(Lib.cut l [32]).1=(ct l).1∧(Lib.cut l [32]).2.1=(ct l).2:=by
 unfold Lib.cut ct;rw[index_one]
 split<;>exact ⟨rfl,rfl⟩
end Go.Pn.Cl
end
section
namespace Go.Pn.Cl
open Go Go.Pn Go.Lib
def Short (c:Call):Prop:=c.key.length<=1000000∧c.other.length<=1000000∧c.item.length<=1000000∧c.data.length<=1000000
theorem valid_all (c:Call):valid c=(isOp c.op&&(decide (c.data.length<=65536)&&(part c 107&&(part c 111&&(part c 113&&(part c 105&&(part c 100&&true))))))):=rfl
theorem part_k (c:Call):part c 107=if has c.op 107 then between 33 c.key else decide (c.key=[]):=by unfold part right zero has;simp
theorem part_o (c:Call):part c 111=if has c.op 111 then between 33 c.other else decide (c.other=[]):=by unfold part right zero has;simp
theorem part_i (c:Call):part c 105=if has c.op 105 then between 32 c.item else decide (c.item=[]):=by unfold part right zero has;simp
theorem part_q (c:Call):part c 113=if has c.op 113 then true else decide (c.qty=0):=by unfold part right zero has;simp
theorem part_d (c:Call):part c 100=if has c.op 100 then true else decide ((c.data.length:Int)=0):=by unfold part right zero has;simp
theorem between_ne {n:Nat}{s:Str}(h:between n s=true):s≠[]:=by
 have:=(between_iff.1 h).2.1;rintro rfl
 simp at this
theorem word_ne {c:Call}:word c.op≠[]↔isOp c.op=true:=by
 constructor
 ·intro h
  cases ho:isOp c.op with
  |true=>rfl
  |false=>exact absurd (word_no ho) h
 ·intro ho h
  have:=(word_len ho).1;rw[h] at this
  simp at this
theorem valid_ref {c:Call}(h0:¬word c.op=[])(h1:¬has c.op 107≠between 33 c.key)(h2:¬has c.op 111≠between 33 c.other)(h3:¬has c.op 105≠between 32 c.item)(h4:¬(c.data.length:Int)>65536):
 (((((has c.op 107||decide (c.key=[]))&&(has c.op 111||decide (c.other=[])))&&(has c.op 105||decide (c.item=[])))&&(has c.op 113||decide (c.qty=0)))&&(has c.op 100||decide ((c.data.length:Int)=0)))=valid c:=by
 have e1:=Decidable.of_not_not h1;have e2:=Decidable.of_not_not h2;have e3:=Decidable.of_not_not h3;rw[valid_all,word_ne.1 h0,part_k,part_o,part_i,part_q,part_d,<-e1,<-e2,<-e3,dT (by omega:c.data.length<=65536)];cases has c.op 107<;>cases has c.op 111<;>cases has c.op 105<;>cases has c.op 113<;>cases has c.op 100<;>simp[Bool.and_assoc,Bool.and_left_comm,Bool.and_comm]
theorem valid_not {c:Call}(h:(((word c.op=[]∨has c.op 107≠between 33 c.key)∨has c.op 111≠between 33 c.other)∨has c.op 105≠between 32 c.item)∨(c.data.length:Int)>65536):false=valid c:=by
 symm
 rw[Bool.eq_false_iff];intro hv;rw[valid_all,part_k,part_o,part_i] at hv;simp only[Bool.and_eq_true,decide_eq_true_eq] at hv;obtain ⟨h1,h2,h3,h4,_,h5,_⟩:=hv;have k:∀{a:Bool} {n:Nat} {s:Str},(if a=true then between n s else decide (s=[]))=true->a=between n s:=by
  intro a n s h;cases a with
  |true=>exact h.symm
  |false=>
   cases hb:between n s with
   |false=>rfl
   |true=>exact absurd (of_decide_eq_true h) (between_ne hb)
 rcases h with (((h|h)|h)|h)|h
 ·exact word_ne.2 h1 h
 ·exact h (k h3)
 ·exact h (k h4)
 ·exact h (k h5)
 ·omega
abbrev ChkT:=UInt8×Bool×Bool
def order:Str:=[107,111,105,113,100]
def checks (c:Call):List ChkT:=order.map λx=>(x,right c x,zero c x)
theorem checks_eq (c:Call):[((107:UInt8),between 33 c.key,decide (c.key=[])),(111,between 33 c.other,decide (c.other=[])),(105,between 32 c.item,decide (c.item=[])),(113,true,decide (c.qty=0)),(100,true,decide ((c.data.length:Int)=0))]=checks c:=by
 simp[checks,order,right,zero]
theorem checks_at {c:Call}{k:Nat}(hk:k<(checks c).length):part c (checks c)[k].1=if (checks c)[k].1∈parts c.op then (checks c)[k].2.1 else (checks c)[k].2.2:=by
 simp only[checks,List.getElem_map]
 rfl
theorem chk_a {c:Call}{x:ChkT}{k:Nat}{hk:k<(checks c).length}(hx:x=(checks c)[k])(h:decide (x.1∈parts c.op)=true):part c x.1=x.2.1:=by
 subst hx;rw[checks_at hk,if_pos (of_decide_eq_true h)]
theorem chk_b {c:Call}{x:ChkT}{k:Nat}{hk:k<(checks c).length}(hx:x=(checks c)[k])(h:decide (x.1∈parts c.op)=false):part c x.1=x.2.2:=by
 subst hx;rw[checks_at hk,if_neg (of_decide_eq_false h)]
theorem chk_mem {c:Call}{x:ChkT}{k:Nat}{hk:k<(checks c).length}(hx:x=(checks c)[k]):x∈checks c:=by
 subst hx;exact List.getElem_mem _
theorem chk_next {c:Call}{x:ChkT}{k:Nat}{hk:k<(checks c).length}(hx:x=(checks c)[k])(hI:∀y∈(checks c).take k,part c y.1=true)(h:part c x.1=true):∀y∈(checks c).take (k+1),part c y.1=true:=by
 subst hx;intro y hy;rw[List.take_succ_eq_append_getElem hk] at hy;rcases List.mem_append.1 hy with hy|hy
 ·exact hI y hy
 ·rw [List.mem_singleton.1 hy];exact h
theorem checks_yes {c:Call}(h0:isOp c.op=true)(h1:¬(c.data.length:Int)>65536)(h:∀y∈checks c,part c y.1=true):true=valid c:=by
 symm
 refine valid_iff.2 ⟨h0,by omega,λx hx=>?_⟩;have h2:x∈order:=(by decide:∀x∈tags,x∈order) x hx;exact h _ (List.mem_map.2 ⟨x,h2,rfl⟩)
theorem checks_no {c:Call}{y:ChkT}(hy:y∈checks c)(h:part c y.1=false):false=valid c:=by
 symm
 rw[Bool.eq_false_iff];intro hv;obtain ⟨x,hx,rfl⟩:=List.mem_map.1 hy;have h2:x∈tags:=(by decide:∀x∈order,x∈tags) x hx;have:=(valid_iff.1 hv).2.2 x h2;rw[this] at h;cases h
theorem valid_len {c:Call}(h:(c.data.length:Int)>65536):false=valid c:=by
 symm
 rw[Bool.eq_false_iff];intro hv;have:=(valid_iff.1 hv).2.1
 omega
theorem valid_nop {c:Call}(h:isOp c.op=false):false=valid c:=by
 unfold valid;rw[h]
 rfl
def digs:Str:=[48,49,50,51,52,53,54,55,56,57,97,98,99,100,101,102]
theorem digs_at:∀n,n<16->digs.getD n 0=dig n:=by decide+kernel
theorem digs_sub:∀n,n<16->(digs.take (n+1)).drop n=[dig n]:=by decide+kernel
theorem hex_step {l:Str}{k:Nat}(hk:k<l.length):hex (l.take (k+1))=hex (l.take k)++[dig (l[k].toNat/16)]++[dig (l[k].toNat%16)]:=by
 unfold hex;rw[List.take_succ_eq_append_getElem hk,List.flatMap_append,List.append_assoc]
 simp[hx]
def orS (l:List Str):Str:=(l.find? (λs=>decide (s≠[]))).getD []
theorem orS_two (a b:Str):orS [a,b]=if a=[] then b else a:=by
 unfold orS
 by_cases h:a=[]
 ·subst h
  by_cases h2:b=[]
  ·subst h2;rfl
  ·simp [h2]
 ·simp [h]
theorem orS_at {l:List Str}{k:Nat}(hk:k<l.length)(h:∀s∈l.take k,s=[])(hn:l[k]≠[]):orS l=l[k]:=by
 unfold orS;have e:l=l.take k++l[k]::l.drop (k+1):=by
  rw[List.getElem_cons_drop,List.take_append_drop]
 have e2:l.find? (λs=>decide (s≠[]))=some l[k]:=by
  conv=>lhs;rw[e]
  rw[List.find?_append,List.find?_eq_none.2 (λs hs=>by simp[h s hs]),Option.none_or,List.find?_cons_of_pos (by simpa using hn)]
 rw[e2]
 rfl
theorem orS_no {l:List Str}(h:∀s∈l,s=[]):orS l=[]:=by
 unfold orS;rw[List.find?_eq_none.2 (λs hs=>by simp[h s hs])]
 rfl
theorem piece_or (c:Call):orS [hex c.data,[45]]=piece c 100:=by
 rw[orS_two];unfold piece
 by_cases h:c.data=[]
 ·simp [h,hex]
 ·have:hex c.data≠[]:=λq=>h (by
   have:=congrArg List.length q;rw[hex_len] at this;exact List.eq_nil_of_length_eq_zero (by rw[List.length_nil] at this;omega))
  simp[h,this]
end Go.Pn.Cl
end
section
namespace Go.Pn.Cl
open Go Go.Pn Go.Lib
theorem dec_le:∀(k u:Nat),u<10^(k+1)->(decDigits u).length<=k+1:=by
 intro k
 induction k with
 |zero=>intro u hu;rw[decDigits,dif_pos (by omega)];simp
 |succ k ih=>
  intro u hu;rw[decDigits]
  split
  ·simp
  ·rw [List.length_append]
   have:=ih (u/10) (by rw[Nat.pow_succ] at hu;omega)
   simp
   omega
theorem dec_len (n:BitVec 64):(decDigits n.toNat).length<=20:=dec_le 19 _ (by have:=n.isLt;omega)
theorem u8_of {x:BitVec 64}{m:Nat}(h:x.toNat=m):UInt8.ofBitVec (x.setWidth 8)=UInt8.ofNat m:=by
 apply UInt8.toNat_inj.1
 rw[UInt8.toNat_ofBitVec,BitVec.toNat_setWidth,h,UInt8.toNat_ofNat']
theorem dig_small {n:BitVec 64}(h:n.toNat<10):[UInt8.ofBitVec ((48#64+n).setWidth 8)]=decDigits n.toNat:=by
 have e:(48#64+n).toNat=48+n.toNat:=by
  rw[BitVec.toNat_add];show (48+n.toNat)%18446744073709551616=_
  omega
 rw[decDigits,dif_pos h,u8_of e]
theorem dig_big {n:BitVec 64}(h:¬n.toNat<10):decDigits (n/10#64).toNat++[UInt8.ofBitVec ((48#64+n%10#64).setWidth 8)]=decDigits n.toNat:=by
 have e1:(n/10#64).toNat=n.toNat/10:=by rw[BitVec.toNat_udiv];rfl
 have e2:(48#64+n%10#64).toNat=48+n.toNat%10:=by
  rw[BitVec.toNat_add,BitVec.toNat_umod];show (48+n.toNat%10)%18446744073709551616=_
  omega
 rw[e1,u8_of e2]
 conv=>rhs;rw[decDigits,dif_neg h]
theorem dec_neg {n:Int}(h:InI64 n)(h0:n<0):[45]++decDigits (BitVec.ofInt 64 (-(n+1))+1#64).toNat=itoa n:=by
 unfold InI64 at h;have e1:(BitVec.ofInt 64 (-(n+1))+1#64).toNat=n.natAbs:=by
  rw[BitVec.toNat_add,BitVec.toNat_ofInt];show ((-(n+1)%18446744073709551616).toNat+1)%18446744073709551616=_
  omega
 rw[e1];unfold itoa;rw[if_pos h0]
 rfl
theorem dec_pos {n:Int}(h:InI64 n)(h0:¬n<0):decDigits (BitVec.ofInt 64 n).toNat=itoa n:=by
 unfold InI64 at h;have e1:(BitVec.ofInt 64 n).toNat=n.toNat:=by
  rw[BitVec.toNat_ofInt];show (n%18446744073709551616).toNat=_
  omega
 rw[e1];unfold itoa;rw[if_neg h0]
theorem q16 (c:BitVec 8):(c/16#8).toNat=c.toNat/16∧(c/16#8+1#8).toNat=c.toNat/16+1:=by
 have h:=c.isLt;have h1:(c/16#8).toNat=c.toNat/16:=by rw[BitVec.toNat_udiv];rfl
 refine ⟨h1,?_⟩;rw[BitVec.toNat_add,h1];show (c.toNat/16+1)%256=_
 omega
theorem r16 (c:BitVec 8):(c%16#8).toNat=c.toNat%16∧(c%16#8+1#8).toNat=c.toNat%16+1:=by
 have h:=c.isLt;have h1:(c%16#8).toNat=c.toNat%16:=by rw[BitVec.toNat_umod];rfl
 refine ⟨h1,?_⟩;rw[BitVec.toNat_add,h1];show (c.toNat%16+1)%256=_
 omega
theorem sub_q (c:BitVec 8):0<=((c/16#8).toNat:Int)∧((c/16#8).toNat:Int)<=((c/16#8+1#8).toNat:Int)∧((c/16#8+1#8).toNat:Int)<=(digs.length:Int):=by
 have h:=c.isLt;rw[(q16 c).1,(q16 c).2];show _∧_∧_<=(16:Int)
 omega
theorem sub_r (c:BitVec 8):0<=((c%16#8).toNat:Int)∧((c%16#8).toNat:Int)<=((c%16#8+1#8).toNat:Int)∧((c%16#8+1#8).toNat:Int)<=(digs.length:Int):=by
 rw[(r16 c).1,(r16 c).2];show _∧_∧_<=(16:Int)
 omega
theorem shr4 (c:BitVec 8):(c>>>4).toNat=c.toNat/16:=by rw[BitVec.toNat_ushiftRight,Nat.shiftRight_eq_div_pow]
theorem and15 (c:BitVec 8):(c&&& 15#8).toNat=c.toNat%16:=by
 rw[BitVec.toNat_and];exact Nat.and_two_pow_sub_one_eq_mod c.toNat 4
theorem ix_q (c:BitVec 8):0<=((c>>>4).toNat:Int)∧((c>>>4).toNat:Int)<(digs.length:Int):=by
 have h:=c.isLt;rw[shr4];show _∧_<(16:Int)
 omega
theorem ix_r (c:BitVec 8):0<=((c&&& 15#8).toNat:Int)∧((c&&& 15#8).toNat:Int)<(digs.length:Int):=by
 rw[and15];show _∧_<(16:Int)
 omega
theorem or_next {l:List Str}{k:Nat}(hk:k<l.length)(h:∀s∈l.take k,s=[])(hn:l[k]=[]):∀s∈l.take (k+1),s=[]:=by
 intro s hs;rw[List.take_succ_eq_append_getElem hk] at hs;rcases List.mem_append.1 hs with hs|hs
 ·exact h s hs
 ·rw [List.mem_singleton.1 hs];exact hn
theorem sub_dig {n m:Nat}(h:n<16)(hm:m=n+1):(digs.take m).drop n=[dig n]:=by subst hm;exact digs_sub n h
theorem hex_sub {l:Str}{k:Nat}(hk:k<l.length):(hex (l.take k)++(digs.take ((l[k].toBitVec/16#8+1#8).toNat:Int).toNat).drop ((l[k].toBitVec/16#8).toNat:Int).toNat)++(digs.take ((l[k].toBitVec%16#8+1#8).toNat:Int).toNat).drop ((l[k].toBitVec%16#8).toNat:Int).toNat=hex (l.take (k+1)):=by
 have h:=l[k].toNat_lt;rw[Int.toNat_natCast,Int.toNat_natCast,Int.toNat_natCast,Int.toNat_natCast,(q16 _).1,(q16 _).2,(r16 _).1,(r16 _).2,UInt8.toNat_toBitVec,sub_dig (by omega) rfl,sub_dig (by omega) rfl,hex_step hk]
theorem hex_shr {l:Str}{k:Nat}(hk:k<l.length):hex (l.take (k+1))=(hex (l.take k)++[digs.getD ((l[k].toBitVec>>>4).toNat:Int).toNat 0])++[digs.getD ((l[k].toBitVec&&& 15#8).toNat:Int).toNat 0]:=by
 have h:=l[k].toNat_lt;rw[Int.toNat_natCast,Int.toNat_natCast,shr4,and15,UInt8.toNat_toBitVec,digs_at _ (by omega),digs_at _ (by omega),hex_step hk]
end Go.Pn.Cl
end
section
namespace Go.Pn.Cl
open Go Go.Pn Go.Lib
theorem hex_cons (b:UInt8)(l:Str):hex (b::l)=dig (b.toNat/16)::dig (b.toNat%16)::hex l:=rfl
theorem hex_at:∀(x:Str) (k:Nat),(hk:k<x.length)->(hex x)[2*k]? =some (dig (x[k].toNat/16))∧(hex x)[2*k+1]? =some (dig (x[k].toNat%16))
 |[],k,hk=>by simp at hk
 |b::l,0,_=>by rw[hex_cons];exact ⟨rfl,rfl⟩
 |b::l,k+1,hk=>by
  have:=hex_at l k (by simpa using hk);rw[hex_cons,show 2*(k+1)=2*k+1+1 from by omega];exact this
theorem getD_of {s:Str}{k:Nat}{c:UInt8}(h:s[k]? =some c):s.getD ((k:Int)).toNat 0=c:=by
 rw[Int.toNat_natCast,List.getD_eq_getElem?_getD,h]
 rfl
theorem ix_dig:∀n,n<16->indexByte digs (dig n)=n:=by decide+kernel
def two (a b:Int):UInt8:=UInt8.ofBitVec (BitVec.ofInt 8 (IntKind.i64.wrap ((BitVec.ofInt 64 (IntKind.i64.wrap (a*2^4))|||BitVec.ofInt 64 (IntKind.i64.wrap ((BitVec.ofInt 64 b&&& BitVec.ofInt 64 15).toNat:Int))).toNat:Int)))
theorem two_dig:∀n,n<16->∀m,m<16->two (n:Nat) (m:Nat)=UInt8.ofNat (16*n+m):=by decide+kernel
theorem byte_two (b:UInt8):two ((b.toNat/16:Nat):Int) ((b.toNat%16:Nat):Int)=b:=by
 have h:=b.toNat_lt;rw[two_dig _ (by omega) _ (by omega)]
 apply UInt8.toNat_inj.1
 rw[UInt8.toNat_ofNat']
 omega
theorem unhex_step {s x o:Str}{k:Nat}(hk:2*k+1<s.length)(ho:s=hex x->o=x.take k)(hs:s=hex x):
 o++[two (indexByte digs (s.getD ((2*k:Nat):Int).toNat 0)) (indexByte digs (s.getD ((2*k+1:Nat):Int).toNat 0))]=x.take (k+1):=by
 have hl:=hex_len x;rw[<-hs] at hl;have hkx:k<x.length:=by omega
 obtain ⟨h1,h2⟩:=hex_at x k hkx;rw[<-hs] at h1 h2;have hb:=x[k].toNat_lt;rw[getD_of h1,getD_of h2,ix_dig _ (by omega),ix_dig _ (by omega),byte_two,List.take_succ_eq_append_getElem hkx,ho hs]
def lastIx (c:UInt8):Nat->Int
 |0=> -1
 |j+1=>if digs.getD j 0=c then j else lastIx c j
theorem last_le (c:UInt8):∀j,-1<=lastIx c j∧lastIx c j<j
 |0=>by simp[lastIx]
 |j+1=>by
  have:=last_le c j;unfold lastIx
  split<;>omega
theorem last_dig:∀n,n<16->lastIx (dig n) 16=n:=by decide+kernel
theorem hi_dig:∀n,n<16->UInt8.ofBitVec (BitVec.ofInt 8 (16*((n:Nat):Int)))=UInt8.ofNat (16*n):=by decide+kernel
def half (x:Str)(i:Nat):Str:=if i%2=0 then x.take (i/2) else x.take (i/2)++[UInt8.ofNat (16*((x.getD (i/2) 0).toNat/16))]
theorem half_even {s x o:Str}{i:Nat}(hi:i<s.length)(h2:i%2=0)(hs:s=hex x)(ho:o=half x i):0<=lastIx (s.getD ((i:Nat):Int).toNat 0) 16∧o++[UInt8.ofBitVec (BitVec.ofInt 8 (16*lastIx (s.getD ((i:Nat):Int).toNat 0) 16))]=half x (i+1):=by
 have hl:=hex_len x;rw[<-hs] at hl;have hkx:i/2<x.length:=by omega
 obtain ⟨h1,_⟩:=hex_at x (i/2) hkx;rw[<-hs,show 2*(i/2)=i from by omega] at h1;have hb:=x[i/2].toNat_lt;rw[getD_of h1,last_dig _ (by omega),hi_dig _ (by omega),ho];unfold half;rw[if_pos h2,if_neg (by omega),show (i+1)/2=i/2 from by omega,List.getD_eq_getElem?_getD,List.getElem?_eq_getElem hkx];exact ⟨by omega,rfl⟩
theorem half_odd {s x o:Str}{i:Nat}(hi:i<s.length)(h2:i%2=1)(hs:s=hex x)(ho:o=half x i):0<=lastIx (s.getD ((i:Nat):Int).toNat 0) 16∧∀h:0<o.length,o.set (o.length-1) (UInt8.ofBitVec ((o[o.length-1]'(by omega)).toBitVec+BitVec.ofInt 8 (lastIx (s.getD ((i:Nat):Int).toNat 0) 16)))=half x (i+1):=by
 have hl:=hex_len x;rw[<-hs] at hl;have hkx:i/2<x.length:=by omega
 obtain ⟨_,h1⟩:=hex_at x (i/2) hkx;rw[<-hs,show 2*(i/2)+1=i from by omega] at h1;have hb:=x[i/2].toNat_lt;rw[getD_of h1,last_dig _ (by omega)];refine ⟨by omega,λh=>?_⟩;subst ho;unfold half;have hg:x.getD (i/2) 0=x[i/2]:=by rw[List.getD_eq_getElem?_getD,List.getElem?_eq_getElem hkx];rfl
 have hm:(x.take (i/2)).length=i/2:=by rw[List.length_take];omega
 simp only[if_neg (by omega:¬i%2=0),if_pos (by omega:(i+1)%2=0),hg];have e1:(x.take (i/2)++[UInt8.ofNat (16*(x[i/2].toNat/16))]).length-1=(x.take (i/2)).length:=by rw[List.length_append];simp
 have e2:UInt8.ofBitVec ((UInt8.ofNat (16*(x[i/2].toNat/16))).toBitVec+BitVec.ofInt 8 ((x[i/2].toNat%16:Nat):Int))=x[i/2]:=by
  apply UInt8.toNat_inj.1
  rw[UInt8.toNat_ofBitVec,BitVec.toNat_add,UInt8.toNat_toBitVec,UInt8.toNat_ofNat',BitVec.toNat_ofInt];show (16*(x[i/2].toNat/16)%256+(((x[i/2].toNat%16:Nat):Int)%256).toNat)%256=_
  omega
 rw[show (i+1)/2=i/2+1 from by omega,List.take_succ_eq_append_getElem hkx];simp only[e1,List.set_append_right _ _ (Nat.le_refl _),Nat.sub_self,List.set_cons_zero,List.getElem_append_right (Nat.le_refl _),List.getElem_cons_zero,e2]
theorem half_all {s x:Str}{i:Nat}(hs:s=hex x)(hi:i=s.length):half x i=x:=by
 have hl:=hex_len x;rw[<-hs] at hl;unfold half;rw[if_pos (by omega)];exact List.take_of_length_le (by omega)
theorem last_next {c:UInt8}{j:Nat}{m:Int}(h:((digs.getD ((j:Int)).toNat 0).toBitVec=c.toBitVec∧m=j)∨(¬(digs.getD ((j:Int)).toNat 0).toBitVec=c.toBitVec∧m=lastIx c j)):m=lastIx c (j+1):=by
 rw[Int.toNat_natCast] at h;unfold lastIx;rcases h with ⟨h,rfl⟩|⟨h,rfl⟩
 ·rw [if_pos (UInt8.eq_of_toBitVec_eq h)]
 ·rw [if_neg (λq=>h (congrArg UInt8.toBitVec q))]
theorem ct_found {s:Str}{k:Nat}(hk:k<s.length)(h:s[k]=32)(hI:∀c∈s.take k,c≠32):ct s=(s.take k,s.drop (k+1)):=by
 have e:s=s.take k++32::s.drop (k+1):=by
  rw[<-h,List.getElem_cons_drop,List.take_append_drop]
 conv=>lhs;rw[e]
 exact ct_at hI
theorem cut_next {s:Str}{k:Nat}(hk:k<s.length)(hI:∀c∈s.take k,c≠32)(h:s[k]≠32):∀c∈s.take (k+1),c≠32:=by
 intro c hc;rw[List.take_succ_eq_append_getElem hk] at hc;rcases List.mem_append.1 hc with hc|hc
 ·exact hI c hc
 ·rw [List.mem_singleton.1 hc];exact h
theorem tup_cut {s:Str}{k:Nat}(_hk:k<s.length){b:Bool}:Value.tuple #[str ((s.take ((k:Int)).toNat).drop (0:Int).toNat),str ((s.take ((s.length:Nat):Int).toNat).drop ((k:Int)+1).toNat),.bool b]=.tuple #[str (s.take k),str (s.drop (k+1)),.bool b]:=by
 have h1:((k:Int)+1).toNat=k+1:=by omega
 rw[h1,Int.toNat_natCast,Int.toNat_natCast,List.take_length]
 rfl
def numS (n:BitVec 64)(c:UInt8):BitVec 64:=if 48#8<=c.toBitVec∧c.toBitVec<=57#8 then 10#64*n+(c.toBitVec-48#8).setWidth 64 else n
def numU (s:Str):BitVec 64:=s.foldl numS 0#64
theorem numU_step {s:Str}{k:Nat}(hk:k<s.length):numU (s.take (k+1))=numS (numU (s.take k)) s[k]:=by
 unfold numU;rw[List.take_succ_eq_append_getElem hk,List.foldl_append]
 rfl
theorem num_next {s:Str}{k:Nat}(hk:k<s.length){m:BitVec 64}(h:((48#8<=(s.getD ((k:Int)).toNat 0).toBitVec∧(s.getD ((k:Int)).toNat 0).toBitVec<=57#8)∧m=10#64*numU (s.take k)+((s.getD ((k:Int)).toNat 0).toBitVec-48#8).setWidth 64)∨(¬(48#8<=(s.getD ((k:Int)).toNat 0).toBitVec∧(s.getD ((k:Int)).toNat 0).toBitVec<=57#8)∧m=numU (s.take k))):
 Value.int .u64 (m.toNat:Int)=.int .u64 ((numU (s.take (k+1))).toNat:Int):=by
 rw[getD_at hk] at h;rw[numU_step hk];unfold numS;rcases h with ⟨h,rfl⟩|⟨h,rfl⟩
 ·rw [if_pos h]
 ·rw [if_neg h]
theorem num_digit {n:BitVec 64}{d:Nat}(hd:d<10):numS n (UInt8.ofNat (48+d))=10#64*n+BitVec.ofNat 64 d:=by
 have e:(UInt8.ofNat (48+d)).toBitVec=BitVec.ofNat 8 (48+d):=rfl;unfold numS;rw[if_pos,e]
 ·congr 1
  apply BitVec.eq_of_toNat_eq
  rw[BitVec.toNat_setWidth,BitVec.toNat_sub,BitVec.toNat_ofNat,BitVec.toNat_ofNat,BitVec.toNat_ofNat];show (256-48%256+(48+d)%256)%256%18446744073709551616=d%18446744073709551616
  omega
 ·rw [e,BitVec.le_def,BitVec.le_def,BitVec.toNat_ofNat]
  show 48<=(48+d)%256∧(48+d)%256<=57
  omega
theorem num_dec:∀u:Nat,(decDigits u).foldl numS 0#64=BitVec.ofNat 64 u:=by
 intro u
 induction u using Nat.strongRecOn with
 |_ u ih=>
  rw[decDigits]
  split
  ·rename_i h
   show numS 0#64 _=_;rw[num_digit h]
   apply BitVec.eq_of_toNat_eq
   simp
  ·rename_i h
   rw[List.foldl_append,ih (u/10) (by omega)];show numS _ _=_;rw[num_digit (by omega)]
   apply BitVec.eq_of_toNat_eq
   simp only[BitVec.toNat_add,BitVec.toNat_mul,BitVec.toNat_ofNat]
   omega
theorem num_itoa (q:Int):numU (itoa q)=BitVec.ofNat 64 q.natAbs:=by
 unfold itoa numU
 split
 ·show (decDigits q.natAbs).foldl numS (numS 0#64 45)=_
  have e:numS 0#64 45=0#64:=by decide
  rw[e,num_dec]
 ·rw [num_dec]
  congr 1
  omega
def numR (s:Str):Int:=if s≠[]∧s.getD 0 0=45 then (-(numU s)).toInt else (numU s).toInt
theorem neg_iff {s:Str}:(s≠[]∧(s.getD (0:Int).toNat 0).toBitVec=45#8)↔(s≠[]∧s.getD 0 0=45):=
 ⟨λh=>⟨h.1,UInt8.eq_of_toBitVec_eq h.2⟩,λh=>⟨h.1,congrArg UInt8.toBitVec h.2⟩⟩
theorem numR_itoa {q:Int}(h:InI64 q):numR (itoa q)=q:=by
 unfold numR;rw[num_itoa q];unfold InI64 at h
 by_cases h0:q<0
 ·have e:itoa q=45::decDigits q.natAbs:=by unfold itoa;rw[if_pos h0]
  rw[e,if_pos ⟨by simp,rfl⟩];rw[BitVec.toInt_eq_toNat_bmod,BitVec.toNat_neg,BitVec.toNat_ofNat];show Int.bmod (((18446744073709551616-q.natAbs%18446744073709551616)%18446744073709551616:Nat):Int) 18446744073709551616=q;rw[Int.bmod_def]
  omega
 ·have e:itoa q=decDigits q.toNat:=by unfold itoa;rw[if_neg h0]
  have h1:¬(itoa q≠[]∧(itoa q).getD 0 0=45):=by
   rintro ⟨h2,h3⟩;rw[e] at h2 h3;cases hd:decDigits q.toNat with
   |nil=>exact h2 hd
   |cons a r=>
    have:=Dt.dec_digit q.toNat a (by rw[hd];simp);rw[hd] at h3;have h4:a=45:=h3;rw[h4] at this
    simp at this
  rw[if_neg h1,BitVec.toInt_eq_toNat_bmod,BitVec.toNat_ofNat];show Int.bmod ((q.natAbs%18446744073709551616:Nat):Int) 18446744073709551616=q;rw[Int.bmod_def]
  omega
theorem numR_in (s:Str):InI64 (numR s):=by
 unfold numR InI64
 split
 ·have h1:=BitVec.le_toInt (-(numU s));have h2:=BitVec.toInt_lt (x:= -(numU s));simp at h1 h2;omega
 ·have h1:=BitVec.le_toInt (numU s);have h2:=BitVec.toInt_lt (x:=numU s);simp at h1 h2;omega
end Go.Pn.Cl
end
section
namespace Go.Pn.Cl
open Go Go.Pn Go.Lib
section
variable {c:Call}{x:UInt8}
theorem u8_ne {n:Nat}(hn:n<256)(h:¬(x.toNat:Int)=n):x≠UInt8.ofNat n:=λe=>h (by rw[e,UInt8.toNat_ofNat'];omega)
theorem u8_eq {n:Nat}(h:(x.toNat:Int)=n):x=UInt8.ofNat n:=by
 apply UInt8.toNat_inj.1
 have:=x.toNat_lt;rw[UInt8.toNat_ofNat']
 omega
theorem pc_k (h:(x.toNat:Int)=107):piece c x=c.key:=by rw[u8_eq (n:=107) h];rfl
theorem pc_o (h:(x.toNat:Int)=111):piece c x=c.other:=by rw[u8_eq (n:=111) h];rfl
theorem pc_q (h:(x.toNat:Int)=113):piece c x=itoa c.qty:=by rw[u8_eq (n:=113) h];rfl
theorem pc_i (h:(x.toNat:Int)=105):piece c x=c.item:=by rw[u8_eq (n:=105) h];rfl
theorem pc_d (h1:¬(x.toNat:Int)=107)(h2:¬(x.toNat:Int)=111)(h3:¬(x.toNat:Int)=113)(h4:¬(x.toNat:Int)=105):piece c x=orS [hex c.data,[45]]:=by
 rw[piece_or];exact ((if_neg (u8_ne (n:=107) (by decide) h1)).trans ((if_neg (u8_ne (n:=111) (by decide) h2)).trans ((if_neg (u8_ne (n:=113) (by decide) h3)).trans (if_neg (u8_ne (n:=105) (by decide) h4)))))
end
theorem text_next {c:Call}{k:Nat}(hk:k<(parts c.op).length){y:Str}(h:piece c (parts c.op)[k]=y):(word c.op::((parts c.op).take k).map (piece c))++[y]=word c.op::((parts c.op).take (k+1)).map (piece c):=by
 rw[List.take_succ_eq_append_getElem hk,List.map_append,<-h]
 rfl
theorem jn_le {m:Nat}:∀{l:List Str},(∀s∈l,s.length<=m)->(Vc.jn l).length<=l.length*(m+1)
 |[],_=>by rw[jn_nil];simp
 |[a],h=>by rw[jn_one];have:=h a (by simp);simp;omega
 |a::b::r,h=>by
  rw[jn_two,List.length_append,List.length_cons];have h1:=h a (by simp);have h2:=jn_le (l:=b::r) λs hs=>h s (by simp[hs])
  have e:(a::b::r).length*(m+1)=(b::r).length*(m+1)+(m+1):=by rw[List.length_cons,Nat.succ_mul]
  omega
theorem itoa_le {q:Int}(h:InI64 q):(itoa q).length<=21:=by
 unfold InI64 at h;unfold itoa
 split
 ·have:=dec_le 19 q.natAbs (by omega)
  simp
  omega
 ·have:=dec_le 19 q.toNat (by omega)
  omega
theorem piece_le {c:Call}(hs:Short c)(hq:InI64 c.qty)(x:UInt8):(piece c x).length<=2000000:=by
 obtain ⟨h1,h2,h3,h4⟩:=hs;have h5:=itoa_le hq;have h6:=hex_len c.data;unfold piece
 split
 ·omega
 ·split
  ·omega
  ·split
   ·omega
   ·split
    ·omega
    ·split
     ·simp
     ·omega
theorem pl_le (o:Int):(parts o).length<=3:=by
 cases h:isOp o with
 |true=>exact parts_len h
 |false=>rw[parts_no h];simp
theorem wl_le (o:Int):(word o).length<=7:=by
 cases h:isOp o with
 |true=>exact (word_len h).2
 |false=>rw[word_no h];simp
theorem text_le {c:Call}(hs:Short c)(hq:InI64 c.qty):(text c).length<=9000000:=by
 unfold text;have h1:=jn_le (m:=2000000) (l:=word c.op::(parts c.op).map (piece c)) λs hm=>by
  rcases List.mem_cons.1 hm with rfl|hm
  ·have:=wl_le c.op;omega
  ·obtain ⟨x,_,rfl⟩:=List.mem_map.1 hm
   exact piece_le hs hq x
 have h2:=pl_le c.op;rw[List.length_cons,List.length_map] at h1
 omega
def addP (b:Bool)(s p:Str):Str:=if b=true then (s++[32])++p else s
theorem addP_of {b:Bool}{s p x:Str}(h:(b=true∧x=(s++[32])++p)∨(b=false∧x=s)):x=addP b s p:=by
 unfold addP;rcases h with ⟨rfl,rfl⟩|⟨rfl,rfl⟩
 ·rfl
 ·rfl
theorem addP_le (b:Bool)(s p:Str):(addP b s p).length<=s.length+p.length+1:=by
 unfold addP
 split
 ·simp;omega
 ·omega
def tx1 (c:Call):Str:=addP (has c.op 107) (word c.op) c.key
def tx2 (c:Call):Str:=addP (has c.op 111) (tx1 c) c.other
def tx3 (c:Call):Str:=addP (has c.op 113) (tx2 c) (itoa c.qty)
def tx4 (c:Call):Str:=addP (has c.op 105) (tx3 c) c.item
theorem tx_le {c:Call}(hs:Short c)(hq:InI64 c.qty):(word c.op).length<=7∧c.key.length<=1000000∧c.other.length<=1000000∧c.item.length<=1000000∧(itoa c.qty).length<=21∧(hex c.data).length<=2000000∧(tx1 c).length<=2000000∧(tx2 c).length<=4000000∧(tx3 c).length<=5000000∧(tx4 c).length<=7000000:=by
 obtain ⟨h1,h2,h3,h4⟩:=hs;have a0:=wl_le c.op;have a5:=itoa_le hq;have a6:=hex_len c.data;have a1:(tx1 c).length<=_:=addP_le (has c.op 107) (word c.op) c.key;have a2:(tx2 c).length<=_:=addP_le (has c.op 111) (tx1 c) c.other;have a3:(tx3 c).length<=_:=addP_le (has c.op 113) (tx2 c) (itoa c.qty);have a4:(tx4 c).length<=_:=addP_le (has c.op 105) (tx3 c) c.item
 omega
theorem text_tx {c:Call}(ho:isOp c.op=true):text c=if has c.op 100=true then addP true (tx4 c) (piece c 100) else tx4 c:=by
 have key:∀o,isOp o=true->o=c.op->text c=if has o 100=true then addP true (addP (has o 105) (addP (has o 113) (addP (has o 111) (addP (has o 107) (word o) c.key) c.other) (itoa c.qty)) c.item) (piece c 100) else addP (has o 105) (addP (has o 113) (addP (has o 111) (addP (has o 107) (word o) c.key) c.other) (itoa c.qty)) c.item:=by
  intro o ho ho2;unfold text;rw[<-ho2];have hp:parts o=[107,113,105]∨parts o=[107,105]∨parts o=[107]∨parts o=[107,111,105]∨parts o=[107,111]∨parts o=[100]∨parts o=[]:=op_all (p:=λo=>parts o=[107,113,105]∨parts o=[107,105]∨parts o=[107]∨parts o=[107,111,105]∨parts o=[107,111]∨parts o=[100]∨parts o=[]) (by decide+kernel) ho;rcases hp with hp|hp|hp|hp|hp|hp|hp<;>simp[has,hp,addP,piece,jn_two,jn_one]
 exact key c.op ho rfl
theorem text_5 {c:Call}(hv:valid c=true){x:Str}(h:((has c.op 100&&decide ((c.data.length:Int)=0))=true∧x=tx4 c++[32,45])∨((has c.op 100&&decide ((c.data.length:Int)=0))=false∧has c.op 100=true∧x=(tx4 c++[32])++hex c.data)∨(has c.op 100=false∧x=tx4 c)):x=text c:=by
 rw[text_tx (valid_iff.1 hv).1];rcases h with ⟨h,rfl⟩|⟨h,h2,rfl⟩|⟨h,rfl⟩
 ·simp only[Bool.and_eq_true,decide_eq_true_eq] at h
  rw[if_pos h.1];have e:c.data=[]:=List.eq_nil_of_length_eq_zero (by omega);unfold addP piece
  simp[e]
 ·rw [if_pos h2]
  rw[h2] at h;have e:¬c.data=[]:=λq=>by rw[q] at h;simp at h
  unfold addP piece
  simp[e]
 ·rw [if_neg (by rw[h];decide)]
end Go.Pn.Cl
end
section
namespace Go.Pn.Cl
open Go Go.Pn Go.Lib
def opB (o:Int):UInt8:=UInt8.ofBitVec (BitVec.ofInt 8 o)
def pieceB (c:Call)(x:UInt8):Str:=if x=107 then Cn.strB c.key else if x=111 then Cn.strB c.other else if x=113 then Cn.num (Cn.u c.qty) else if x=105 then Cn.strB c.item else Cn.strB c.data
def bytes (c:Call):Str:=opB c.op::(parts c.op).flatMap (pieceB c)
section
variable {c:Call}{x:UInt8}
theorem pb_k (h:(x.toNat:Int)=107):pieceB c x=Cn.strB c.key:=by rw[u8_eq (n:=107) h];rfl
theorem pb_o (h:(x.toNat:Int)=111):pieceB c x=Cn.strB c.other:=by rw[u8_eq (n:=111) h];rfl
theorem pb_q (h:(x.toNat:Int)=113):pieceB c x=Cn.num (BitVec.ofInt 64 c.qty).toNat:=by rw[u8_eq (n:=113) h];rfl
theorem pb_i (h:(x.toNat:Int)=105):pieceB c x=Cn.strB c.item:=by rw[u8_eq (n:=105) h];rfl
theorem pb_d (h1:¬(x.toNat:Int)=107)(h2:¬(x.toNat:Int)=111)(h3:¬(x.toNat:Int)=113)(h4:¬(x.toNat:Int)=105):pieceB c x=Cn.strB c.data:=
 (if_neg (u8_ne (n:=107) (by decide) h1)).trans ((if_neg (u8_ne (n:=111) (by decide) h2)).trans ((if_neg (u8_ne (n:=113) (by decide) h3)).trans (if_neg (u8_ne (n:=105) (by decide) h4))))
end
theorem bytes_next {c:Call}{k:Nat}(hk:k<(parts c.op).length){y:Str}(h:pieceB c (parts c.op)[k]=y):(opB c.op::((parts c.op).take k).flatMap (pieceB c))++y=opB c.op::((parts c.op).take (k+1)).flatMap (pieceB c):=by
 rw[List.take_succ_eq_append_getElem hk,List.flatMap_append,<-h]
 simp
theorem strB_le {s:Str}(h:s.length<=1000000):(Cn.strB s).length<=1000010:=by
 have:=Cn.num_le s.length (by omega);unfold Cn.strB;rw[List.length_append]
 omega
theorem pieceB_le {c:Call}(hs:Short c)(x:UInt8):(pieceB c x).length<=1000010:=by
 obtain ⟨h1,h2,h3,h4⟩:=hs;have h5:=Cn.num_u' c.qty;have a1:=strB_le h1;have a2:=strB_le h2;have a3:=strB_le h3;have a4:=strB_le h4;unfold pieceB
 split
 ·exact a1
 ·split
  ·exact a2
  ·split
   ·omega
   ·split
    ·exact a3
    ·exact a4
theorem bytes_take {c:Call}(hs:Short c)(k:Nat):(((parts c.op).take k).flatMap (pieceB c)).length<=3000030:=by
 have h1:=Cn.flatMap_le (f:=pieceB c) (b:=1000010) (l:=(parts c.op).take k) λx _=>pieceB_le hs x
 have h2:=pl_le c.op;have h3:((parts c.op).take k).length<=3:=by rw[List.length_take];omega
 omega
def addB (b:Bool)(s p:Str):Str:=if b=true then s++p else s
theorem addB_t {b:Bool}{s p:Str}(h:b=true):s++p=addB b s p:=by rw[h];rfl
theorem addB_f {b:Bool}{s p:Str}(h:b=false):s=addB b s p:=by rw[h];rfl
theorem addB_le (b:Bool)(s p:Str):(addB b s p).length<=s.length+p.length:=by
 unfold addB
 split
 ·simp
 ·omega
def bx1 (c:Call):Str:=addB (has c.op 107) [opB c.op] (Cn.strB c.key)
def bx2 (c:Call):Str:=addB (has c.op 111) (bx1 c) (Cn.strB c.other)
def bx3 (c:Call):Str:=addB (has c.op 113) (bx2 c) (Cn.num (BitVec.ofInt 64 c.qty).toNat)
def bx4 (c:Call):Str:=addB (has c.op 105) (bx3 c) (Cn.strB c.item)
theorem bx_le {c:Call}(hs:Short c):(Cn.strB c.key).length<=1000010∧(Cn.strB c.other).length<=1000010∧(Cn.strB c.item).length<=1000010∧(Cn.strB c.data).length<=1000010∧(Cn.num (BitVec.ofInt 64 c.qty).toNat).length<=10∧(bx1 c).length<=1000011∧(bx2 c).length<=2000021∧(bx3 c).length<=2000031∧(bx4 c).length<=3000041:=by
 obtain ⟨h1,h2,h3,h4⟩:=hs;have a1:=strB_le h1;have a2:=strB_le h2;have a3:=strB_le h3;have a4:=strB_le h4;have a5:=Cn.num_u (BitVec.ofInt 64 c.qty);have b1:(bx1 c).length<=_:=addB_le (has c.op 107) [opB c.op] (Cn.strB c.key);have b2:(bx2 c).length<=_:=addB_le (has c.op 111) (bx1 c) (Cn.strB c.other);have b3:(bx3 c).length<=_:=addB_le (has c.op 113) (bx2 c) (Cn.num (BitVec.ofInt 64 c.qty).toNat);have b4:(bx4 c).length<=_:=addB_le (has c.op 105) (bx3 c) (Cn.strB c.item);rw[List.length_singleton] at b1
 omega
def bx5 (c:Call):Str:=addB (has c.op 100) (bx4 c) (Cn.strB c.data)
theorem bytes_bx {c:Call}(ho:isOp c.op=true):bx5 c=bytes c:=by
 have key:∀o,isOp o=true->o=c.op->addB (has o 100) (addB (has o 105) (addB (has o 113) (addB (has o 111) (addB (has o 107) [opB o] (Cn.strB c.key)) (Cn.strB c.other)) (Cn.num (BitVec.ofInt 64 c.qty).toNat)) (Cn.strB c.item)) (Cn.strB c.data)=bytes c:=by
  intro o ho ho2;unfold bytes;rw[<-ho2];have hp:parts o=[107,113,105]∨parts o=[107,105]∨parts o=[107]∨parts o=[107,111,105]∨parts o=[107,111]∨parts o=[100]∨parts o=[]:=op_all (p:=λo=>parts o=[107,113,105]∨parts o=[107,105]∨parts o=[107]∨parts o=[107,111,105]∨parts o=[107,111]∨parts o=[100]∨parts o=[]) (by decide+kernel) ho;rcases hp with hp|hp|hp|hp|hp|hp|hp<;>simp[has,hp,addB,pieceB,Cn.u]
 exact key c.op ho rfl
end Go.Pn.Cl
end
section
namespace Go.Pn
section
variable {α β:Type}{E:Enc α}{G:Flat β}{w:World}{F:Nat->Prop}{v:Value}{xs:List α}
theorem Sl.raws {R:β->α->Prop}(hs:E.sz=G.sz)(hr:∀cs x,E.rep w F cs x->∃r,cs=G.e r∧R r x)(h:Sl E w F v xs):∃rs:List β,Sl G.enc w F v rs∧rs.length=xs.length∧∀i,∀h:i<rs.length,∀h':i<xs.length,R rs[i] xs[i]:=by
 obtain ⟨hm,h⟩:=h;rcases h with ⟨a,rfl,rfl⟩|⟨b,off,cap,cur,ty,fr,rfl,hF,hb,h1,h2,h3,hx⟩
 ·exact ⟨[],⟨hm,.inl ⟨a,rfl,rfl⟩⟩,rfl,λi h=>absurd h (by simp)⟩
 ·have hc:∀i:Fin xs.length,∃r,(cur.toList.drop (off+i.val*E.sz)).take E.sz=G.e r∧R r xs[i.val]:=λi=>hr _ _ (hx i.val i.isLt)
  obtain ⟨f,hf⟩:=Classical.axiomOfChoice hc;have hl:(List.ofFn f).length=xs.length:=List.length_ofFn;refine ⟨List.ofFn f,⟨by rw[hl];exact hm,.inr ⟨b,off,cap,cur,ty,fr,by rw[hl],hF,hb,by rw[hl];exact h1,h2,λhp=>?_,λi hi=>?_⟩⟩,hl,λi hi hi'=>?_⟩
  ·have:=h3 (by rw[hl] at hp;exact hp)
   rw[hs] at this;exact this
  ·rw [List.getElem_ofFn]
   have:=(hf ⟨i,by rw[hl] at hi;exact hi⟩).1;rw[hs] at this;exact this
  ·rw [List.getElem_ofFn]
   exact (hf ⟨i,hi'⟩).2
end
section
variable {w:World}{F:Nat->Prop}{v:Value}{l:List ItemT}{tm ti:TypeId}
def ItemsK (tm:TypeId)(w:World)(F:Nat->Prop)(k:Nat)(raw:List (List UInt8×Raw))(l:List ItemT):Prop:=
 raw.length=l.length∧∀i,∀h:i<raw.length,∀h':i<l.length,raw[i].1=l[i].1∧(i<k->Fre markF tm w F (slv raw[i].2) l[i].2)
theorem ItemsK.kM {M:Nat->Prop}{w':World}{k:Nat}{raw:List (List UInt8×Raw)}(h:ItemsK tm w F k raw l)(e:Ext M w w')(hM:∀k,F k->¬M k):ItemsK tm w' F k raw l:=
 ⟨h.1,λi h1 h2=>⟨(h.2 i h1 h2).1,λhk=>((h.2 i h1 h2).2 hk).kM e hM⟩⟩
theorem ItemsK.keepA {M:Nat->Prop}{w':World}{k:Nat}{raw:List (List UInt8×Raw)}(h:ItemsK tm w F k raw l)(e:Ext M w w')(hM:∀k,F k->¬M k:=by intro k hk h;first|(have q:=hF k hk;(try dsimp only at h);omega)|(have q:=hF2 k hk;(try dsimp only at h);omega)|(have q:=hFb k hk;(try dsimp only at h);omega)|((try dsimp only at hk);(try dsimp only at h);omega)):ItemsK tm w' F k raw l:=ItemsK.kM h e hM
theorem ItemsK.weak {F':Nat->Prop}{k:Nat}{raw:List (List UInt8×Raw)}(h:ItemsK tm w F k raw l)(hF:∀k,F k->F' k):ItemsK tm w F' k raw l:=
 ⟨h.1,λi h1 h2=>⟨(h.2 i h1 h2).1,λhk=>((h.2 i h1 h2).2 hk).weak hF⟩⟩
theorem ItemsK.weakA {F':Nat->Prop}{k:Nat}{raw:List (List UInt8×Raw)}(h:ItemsK tm w F k raw l)(hF:∀k,F k->F' k:=by intro q hq;(try dsimp only at hq);(try dsimp only);omega):ItemsK tm w F' k raw l:=ItemsK.weak h hF
end
end Go.Pn
end
section
namespace Go.Pn
abbrev CartT:=(List Dt.Dot×List Dt.Dot)×List ItemT
abbrev EntT:=List UInt8×CartT
abbrev EntR:=List UInt8×((Raw×Raw)×Raw)
def entF:Flat EntR:=⟨4,λx=>[str x.1,slv x.2.1.1,slv x.2.1.2,slv x.2.2],λ_=>rfl,by simp[Value.oneCell',str,slv],by decide⟩
def CartAt (w:World)(F:Nat->Prop)(r:(Raw×Raw)×Raw)(c:CartT):Prop:=Sl Dt.dotF.enc w F (slv r.1.1) c.1.1∧Sl Dt.dotF.enc w F (slv r.1.2) c.1.2∧Sl itemE w F (slv r.2) c.2
section
variable {w w':World}{F F' M:Nat->Prop}{r:(Raw×Raw)×Raw}{c:CartT}
theorem CartAt.kM (h:CartAt w F r c)(e:Ext M w w')(hM:∀k,F k->¬M k):CartAt w' F r c:=⟨h.1.kM e hM,h.2.1.kM e hM,h.2.2.kM e hM⟩
theorem CartAt.keepA (h:CartAt w F r c)(e:Ext M w w')(hM:∀k,F k->¬M k:=by intro k hk h;first|(have q:=hF k hk;(try dsimp only at h);omega)|(have q:=hF2 k hk;(try dsimp only at h);omega)|(have q:=hFb k hk;(try dsimp only at h);omega)|((try dsimp only at hk);(try dsimp only at h);omega)):CartAt w' F r c:=CartAt.kM h e hM
theorem CartAt.weak (h:CartAt w F r c)(hF:∀k,F k->F' k):CartAt w F' r c:=⟨h.1.weak hF,h.2.1.weak hF,h.2.2.weak hF⟩
theorem CartAt.weakA (h:CartAt w F r c)(hF:∀k,F k->F' k:=by intro q hq;(try dsimp only at hq);(try dsimp only);omega):CartAt w F' r c:=CartAt.weak h hF
end
def EntL (w:World)(F:Nat->Prop)(raw:List EntR)(l:List EntT):Prop:=raw.length=l.length∧∀i,∀h:i<raw.length,∀h':i<l.length,raw[i].1=l[i].1∧CartAt w F raw[i].2 l[i].2
section
variable {w w':World}{F F' M:Nat->Prop}{raw:List EntR}{l:List EntT}{v:Value}
theorem EntL.kM (h:EntL w F raw l)(e:Ext M w w')(hM:∀k,F k->¬M k):EntL w' F raw l:=⟨h.1,λi h1 h2=>⟨(h.2 i h1 h2).1,(h.2 i h1 h2).2.kM e hM⟩⟩
theorem EntL.keepA (h:EntL w F raw l)(e:Ext M w w')(hM:∀k,F k->¬M k:=by intro k hk h;first|(have q:=hF k hk;(try dsimp only at h);omega)|(have q:=hF2 k hk;(try dsimp only at h);omega)|(have q:=hFb k hk;(try dsimp only at h);omega)|((try dsimp only at hk);(try dsimp only at h);omega)):EntL w' F raw l:=EntL.kM h e hM
theorem EntL.weak (h:EntL w F raw l)(hF:∀k,F k->F' k):EntL w F' raw l:=⟨h.1,λi h1 h2=>⟨(h.2 i h1 h2).1,(h.2 i h1 h2).2.weak hF⟩⟩
theorem EntL.weakA (h:EntL w F raw l)(hF:∀k,F k->F' k:=by intro q hq;(try dsimp only at hq);(try dsimp only);omega):EntL w F' raw l:=EntL.weak h hF
end
end Go.Pn
end
section
namespace Go.Pn
def CartF (td ti tm:TypeId)(w:World)(F:Nat->Prop)(r:(Raw×Raw)×Raw)(c:CartT):Prop:=Fre Dt.dotF td w F (slv r.1.1) c.1.1∧Fre Dt.dotF td w F (slv r.1.2) c.1.2∧SlI ti tm w F (slv r.2) c.2
section
variable {td ti tm te:TypeId}{w w':World}{F F' M G G':Nat->Prop}{r:(Raw×Raw)×Raw}{c:CartT}
theorem CartF.kM (h:CartF td ti tm w F r c)(e:Ext M w w')(hM:∀k,F k->¬M k):CartF td ti tm w' F r c:=⟨h.1.kM e hM,h.2.1.kM e hM,h.2.2.kM e hM⟩
theorem CartF.keepA (h:CartF td ti tm w F r c)(e:Ext M w w')(hM:∀k,F k->¬M k:=by intro k hk h;first|(have q:=hF k hk;(try dsimp only at h);omega)|(have q:=hF2 k hk;(try dsimp only at h);omega)|(have q:=hFb k hk;(try dsimp only at h);omega)|((try dsimp only at hk);(try dsimp only at h);omega)):CartF td ti tm w' F r c:=CartF.kM h e hM
theorem CartF.weak (h:CartF td ti tm w F r c)(hF:∀k,F k->F' k):CartF td ti tm w F' r c:=⟨h.1.weak hF,h.2.1.weak hF,h.2.2.weak hF⟩
theorem CartF.weakA (h:CartF td ti tm w F r c)(hF:∀k,F k->F' k:=by intro q hq;(try dsimp only at hq);(try dsimp only);omega):CartF td ti tm w F' r c:=CartF.weak h hF
def EntsD (td ti tm:TypeId)(w:World)(G:Nat->Prop)(lo hi:Nat)(raw:List EntR)(l:List EntT):Prop:=
 raw.length=l.length∧∃b:Nat->Nat,(lo<=b 0∧b l.length<=hi)∧(∀i,b i<=b (i+1))∧∀i,∀h:i<raw.length,∀h':i<l.length,raw[i].1=l[i].1∧CartF td ti tm w (λj=>G j∧b i<=j∧j<b (i+1)) raw[i].2 l[i].2
variable {raw:List EntR}{l:List EntT}{lo hi:Nat}{v:Value}
theorem mono_of {b:Nat->Nat}(h:∀i,b i<=b (i+1)){i j:Nat}(hij:i<=j):b i<=b j:=by
 induction hij with
 |refl=>exact Nat.le_refl _
 |step _ ih=>exact Nat.le_trans ih (h _)
theorem EntsD.kM (h:EntsD td ti tm w G lo hi raw l)(e:Ext M w w')(hM:∀k,G k->lo<=k->k<hi->¬M k):EntsD td ti tm w' G lo hi raw l:=by
 obtain ⟨h0,b,⟨h1,h2⟩,h3,h4⟩:=h;refine ⟨h0,b,⟨h1,h2⟩,h3,λi k1 k2=>⟨(h4 i k1 k2).1,(h4 i k1 k2).2.kM e λk hk=>hM k hk.1 ?_ ?_⟩⟩
 ·have:=mono_of h3 (Nat.zero_le i);omega
 ·have:=mono_of h3 (show i+1<=l.length by omega);omega
theorem EntsD.keepA (h:EntsD td ti tm w G lo hi raw l)(e:Ext M w w')(hM:∀k,G k->lo<=k->k<hi->¬M k:=by intro k hk h;first|(have q:=hF k hk;(try dsimp only at h);omega)|(have q:=hF2 k hk;(try dsimp only at h);omega)|(have q:=hFb k hk;(try dsimp only at h);omega)|((try dsimp only at hk);(try dsimp only at h);omega)):EntsD td ti tm w' G lo hi raw l:=EntsD.kM h e hM
def SlE (te td ti tm:TypeId)(w:World)(lo hi:Nat)(v:Value)(l:List EntT):Prop:=∃raw,Fre entF te w (λj=>lo<=j∧j<hi) v raw∧EntsD td ti tm w (λj=>¬bk v j) lo hi raw l
theorem SlE.kM (h:SlE te td ti tm w lo hi v l)(e:Ext M w w')(hM:∀k,lo<=k->k<hi->¬M k):SlE te td ti tm w' lo hi v l:=by
 obtain ⟨raw,h1,h2⟩:=h;exact ⟨raw,h1.kM e λk hk=>hM k hk.1 hk.2,h2.kM e λk _=>hM k⟩
theorem SlE.keepA (h:SlE te td ti tm w lo hi v l)(e:Ext M w w')(hM:∀k,lo<=k->k<hi->¬M k:=by intro k hk h;first|(have q:=hF k hk;(try dsimp only at h);omega)|(have q:=hF2 k hk;(try dsimp only at h);omega)|(have q:=hFb k hk;(try dsimp only at h);omega)|((try dsimp only at hk);(try dsimp only at h);omega)):SlE te td ti tm w' lo hi v l:=SlE.kM h e hM
end
end Go.Pn
end
section
namespace Go.Pn
section
variable {P:Program}{n:Nat}{N:Val->World->Prop}{X:Nat->Val->World->Prop}{R:Val->World->Prop}{Z:List PanicEntry->World->Prop}{f:Val}{w:World}{c:Code}
end
section
variable {P:Program}{n:Nat}{ops rest:List Oper}{N:Val->World->Prop}{Z:List PanicEntry->World->Prop}{f:Val}{w:World}
 {d:Nat}{x y:Operand}{t t' ty:TypeId}{pos:String}{after:Array Edge}{a b:Int}{k:IntKind}
theorem O.eqlK (hx:ev n f x=.int k a)(hy:ev n f y=.int k b)(h:O P n ops rest N Z (upd f d (.bool (decide (a=b)))) w):
 O P n ops (ZO d (.binOp .eql t x y t') ty pos after::rest) N Z f w:=
 O.val rfl rfl (by
  have e:(a==b)=decide (a=b):=by by_cases h:a=b<;>simp[h]
  simp[execOp,hx,hy,eqGuard,binOp,Op.intCmp,e]) h
end
def two (c:Nat):List UInt8:=[UInt8.ofNat (192+c/64),UInt8.ofNat (128+c%64)]
section
variable {α:Type}{G:Flat α}{P:Program}{n:Nat}{ops rest:List Oper}{N:Val->World->Prop}{Z:List PanicEntry->World->Prop}{f:Val}{w:World}
 {d:Nat}{x:Operand}{t tr:TypeId}{pos:String}{after:Array Edge}
end
end Go.Pn
end
section
namespace Go.Pn.Cl
open Go Go.Pn Go.Lib
def zeroC:Call:=⟨0,[],[],[],0,[]⟩
def Got (s:Str)(c:Call)(e:Int):Prop:=(e=0∧valid c=true∧InI64 c.qty∧text c=s)∨(e=6∧c=zeroC∧∀d,valid d=true->InI64 d.qty->text d≠s)
def Rd (s:Str)(o:Int)(k:Nat)(rest:Str)(c:Call):Prop:=Track s o ((parts o).take k) ((parts o).drop k) rest c∧(k=0->c.data=[])∧rest.length<=s.length∧c.key.length<=s.length∧c.other.length<=s.length∧c.item.length<=s.length∧c.data.length<=s.length∧InI64 c.qty
section
variable {s rest:Str}{o:Int}{k:Nat}{c:Call}
theorem Rd.start (ho:isOp o=true)(h:word o=(ct s).1):Rd s o 0 (ct s).2 ⟨o,[],[],[],0,[]⟩:=
 ⟨by rw[List.take_zero,List.drop_zero];exact Track.start ho h,λ_=>rfl,(ct_len s).2,Nat.zero_le _,Nat.zero_le _,Nat.zero_le _,Nat.zero_le _,(by unfold InI64;omega:InI64 0)⟩
theorem take_drop (hk:k<(parts o).length){x:UInt8}(hx:(parts o)[k]=x):(parts o).drop k=x::(parts o).drop (k+1)∧(parts o).take (k+1)=(parts o).take k++[x]:=by
 subst hx;exact ⟨List.drop_eq_getElem_cons hk,List.take_succ_eq_append_getElem hk⟩
theorem Rd.key (h:Rd s o k rest c)(hk:k<(parts o).length)(hx:(((parts o)[k]).toNat:Int)=107):Rd s o (k+1) (ct rest).2 {c with key:=(ct rest).1}:=by
 obtain ⟨h1,h2,h3,h4,h5,h6,h7,h8⟩:=h;obtain ⟨e1,e2⟩:=take_drop hk (u8_eq (n:=107) hx);have hc:=ct_len rest;rw[e1] at h1;exact ⟨by rw[e2];exact h1.key,λq=>by omega,by omega,Nat.le_trans hc.1 h3,h5,h6,h7,h8⟩
theorem Rd.other (h:Rd s o k rest c)(hk:k<(parts o).length)(hx:(((parts o)[k]).toNat:Int)=111):Rd s o (k+1) (ct rest).2 {c with other:=(ct rest).1}:=by
 obtain ⟨h1,h2,h3,h4,h5,h6,h7,h8⟩:=h;obtain ⟨e1,e2⟩:=take_drop hk (u8_eq (n:=111) hx);have hc:=ct_len rest;rw[e1] at h1;exact ⟨by rw[e2];exact h1.other,λq=>by omega,by omega,h4,Nat.le_trans hc.1 h3,h6,h7,h8⟩
theorem tag_q (hk:k<(parts o).length)(h1:¬(((parts o)[k]).toNat:Int)=105)(h2:¬(((parts o)[k]).toNat:Int)=100)(h3:¬(((parts o)[k]).toNat:Int)=107)(h4:¬(((parts o)[k]).toNat:Int)=111):(parts o)[k]=113:=by
 have ho:isOp o=true:=by
  cases h:isOp o with
  |true=>rfl
  |false=>rw[parts_no h] at hk;simp at hk
 have h5:=parts_tags ho _ (List.getElem_mem hk);simp only[tags,List.mem_cons,List.not_mem_nil,or_false] at h5;rcases h5 with h|h|h|h|h
 ·rw [h] at h3;exact absurd rfl h3
 ·rw [h] at h4;exact absurd rfl h4
 ·exact h
 ·rw [h] at h1;exact absurd rfl h1
 ·rw [h] at h2;exact absurd rfl h2
theorem Rd.qty (h:Rd s o k rest c)(hk:k<(parts o).length)(hx:(parts o)[k]=113){n:Int}(hn:∀q,InI64 q->(ct rest).1=itoa q->n=q)(hi:InI64 n):Rd s o (k+1) (ct rest).2 {c with qty:=n}:=by
 obtain ⟨h1,h2,h3,h4,h5,h6,h7,h8⟩:=h;obtain ⟨e1,e2⟩:=take_drop hk hx;have hc:=ct_len rest;rw[e1] at h1;exact ⟨by rw[e2];exact h1.qty λq hq=>hn q hq,λq=>by omega,by omega,h4,h5,h6,h7,hi⟩
theorem last_nil (hk:k<(parts o).length){x:UInt8}(hx:(parts o)[k]=x)(h:x=105∨x=100):(parts o).drop (k+1)=[]:=by
 have ho:isOp o=true:=by
  cases h:isOp o with
  |true=>rfl
  |false=>rw[parts_no h] at hk;simp at hk
 exact parts_last ho k (Nat.lt_of_lt_of_le hk (parts_len ho)) x (by rw[List.getElem?_eq_getElem hk,hx]) h
theorem Rd.item (h:Rd s o k rest c)(hk:k<(parts o).length)(hx:(((parts o)[k]).toNat:Int)=105):Rd s o (k+1) rest {c with item:=rest}:=by
 obtain ⟨h1,h2,h3,h4,h5,h6,h7,h8⟩:=h;have hx2:=u8_eq (n:=105) hx;obtain ⟨e1,e2⟩:=take_drop hk hx2;have e3:=last_nil hk hx2 (.inl rfl);rw[e1,e3] at h1;exact ⟨by rw[e2,e3];exact h1.item,λq=>by omega,h3,h4,h5,h3,h7,h8⟩
theorem Rd.data (h:Rd s o k rest c)(hk:k<(parts o).length)(hx:(((parts o)[k]).toNat:Int)=100){l:Str}(hl:∀x:Str,rest=(if x=[] then [45] else hex x)->l=x)(hll:l.length<=s.length):Rd s o (k+1) rest {c with data:=l}:=by
 obtain ⟨h1,h2,h3,h4,h5,h6,h7,h8⟩:=h;have hx2:=u8_eq (n:=100) hx;obtain ⟨e1,e2⟩:=take_drop hk hx2;have e3:=last_nil hk hx2 (.inr rfl);rw[e1,e3] at h1;exact ⟨by rw[e2,e3];exact h1.data hl,λq=>by omega,h3,h4,h5,h6,hll,h8⟩
theorem data_0 (hk:k<(parts o).length)(hx:(((parts o)[k]).toNat:Int)=100):k=0:=by
 have ho:isOp o=true:=by
  cases h:isOp o with
  |true=>rfl
  |false=>rw[parts_no h] at hk;simp at hk
 have h1:∀i,i<3->(parts o)[i]? =some 100->i=0:=op_all (p:=λo=>∀i,i<3->(parts o)[i]? =some 100->i=0) (by decide+kernel) ho;exact h1 k (Nat.lt_of_lt_of_le hk (parts_len ho)) (by rw[List.getElem?_eq_getElem hk,u8_eq (n:=100) hx];rfl)
theorem Rd.none (h:Rd s o k rest c)(hk:k<(parts o).length)(hx:(((parts o)[k]).toNat:Int)=100)(hr:rest=[45]):Rd s o (k+1) rest c:=by
 have h0:=h.2.1 (data_0 hk hx);have h1:=h.data hk hx (l:=[]) (λx hx2=>by
  by_cases q:x=[]
  ·exact q.symm
  ·rw [if_neg q,hr] at hx2
   cases x with
   |nil=>exact absurd rfl q
   |cons b l=>exact absurd hx2.symm hex_ne) (Nat.zero_le _)
 have e:({c with data:=[]}:Call)=c:=by rw[<-h0]
 rw[e] at h1;exact h1
theorem some_data {l:Str}(hr:¬rest=[45])(h:∀x,rest=hex x->l=x):∀x:Str,rest=(if x=[] then [45] else hex x)->l=x:=by
 intro x hx
 by_cases q:x=[]
 ·rw [if_pos q] at hx;exact absurd hx hr
 ·rw [if_neg q] at hx;exact h x hx
theorem Rd.end (h:Rd s o (parts o).length rest c){d:Call}(hv:valid d=true)(hq:InI64 d.qty)(hd:text d=s):c=d:=by
 have h1:=h.1;rw[List.take_length,List.drop_length] at h1;exact h1.end hv hq hd
theorem Rd.short (h:Rd s o k rest c)(hs:s.length<=1000000):Short c:=⟨Nat.le_trans h.2.2.2.1 hs,Nat.le_trans h.2.2.2.2.1 hs,Nat.le_trans h.2.2.2.2.2.1 hs,Nat.le_trans h.2.2.2.2.2.2.1 hs⟩
theorem Got.bad (h:∀d,valid d=true->InI64 d.qty->text d=s->c=d)(hb:¬(valid c=true∧text c=s)):Got s zeroC 6:=
 .inr ⟨rfl,rfl,λd hv hq hd=>hb (by have e:=h d hv hq hd;subst e;exact ⟨hv,hd⟩)⟩
theorem bad1 {t:Str}{e:Int}(ht:(valid c=true∧t=text c∧e=0)∨(valid c=false∧t=[]∧e=2))(h:e≠0):¬(valid c=true∧text c=s):=by
 rintro ⟨h1,_⟩;rcases ht with ⟨_,_,h2⟩|⟨h2,_⟩
 ·exact h h2
 ·rw [h1] at h2;cases h2
theorem bad2 {t:Str}{e:Int}(ht:(valid c=true∧t=text c∧e=0)∨(valid c=false∧t=[]∧e=2))(h:t≠s):¬(valid c=true∧text c=s):=by
 rintro ⟨h1,h3⟩;rcases ht with ⟨_,h2,_⟩|⟨h2,_⟩
 ·exact h (h2.trans h3)
 ·rw [h1] at h2;cases h2
theorem good {t:Str}{e:Int}(ht:(valid c=true∧t=text c∧e=0)∨(valid c=false∧t=[]∧e=2))(h1:¬e≠0)(h2:¬t≠s):valid c=true∧text c=s:=by
 rcases ht with ⟨a,b,_⟩|⟨_,_,h⟩
 ·exact ⟨a,b.symm.trans (Decidable.of_not_not h2)⟩
 ·omega
theorem Got.stop (h:opOf (ct s).1=0):Got s zeroC 6:=.inr ⟨rfl,rfl,λd hv _ hd=>by
 have:=opOf_of (valid_iff.1 hv).1;have e:(ct s).1=word d.op:=by rw[<-hd,ct_text hv]
 rw[<-e,h] at this;have h2:=of_decide_eq_true (valid_iff.1 hv).1
 omega⟩
end
end Go.Pn.Cl
end
section
namespace Go.Pn.Cl
open Go Go.Pn Go.Lib
def BGot (l:Str)(c:Call)(e:Int):Prop:=(e=0∧valid c=true∧InI64 c.qty∧bytes c=l)∨(e=12∧c=zeroC∧∀d,valid d=true->InI64 d.qty->bytes d≠l)
def Bd (l:Str)(o:Int)(j pos:Nat)(c:Call)(es:List Int):Prop:=
 c.op=o∧(c.key.length<=l.length∧c.other.length<=l.length∧c.item.length<=l.length∧c.data.length<=l.length∧InI64 c.qty)∧(∀e∈es,0<=e)∧pos<=l.length∧
  (((∀e∈es,e=0)∧Cn.Seg (opB o::((parts o).take j).flatMap (pieceB c)) l 0 pos∧∀d,valid d=true->InI64 d.qty->bytes d=l->d.op=o∧c=cut d ((parts o).take j)∧l.drop pos=((parts o).drop j).flatMap (pieceB d))∨
    ((∃e∈es,0<e)∧∀d,valid d=true->InI64 d.qty->bytes d≠l))
theorem opB_nat (b:UInt8):opB (b.toNat:Int)=b:=by
 apply UInt8.toNat_inj.1
 have:=b.toNat_lt;unfold opB;rw[UInt8.toNat_ofBitVec,BitVec.toNat_ofInt];show (((b.toNat:Nat):Int)%256).toNat=_
 omega
theorem opB_inj {o:Int}{b:UInt8}(h:isOp o=true)(e:opB o=b):o=(b.toNat:Int):=by
 have h1:=of_decide_eq_true h;subst e;unfold opB;rw[UInt8.toNat_ofBitVec,BitVec.toNat_ofInt];show o=(((o%256).toNat:Nat):Int)
 omega
section
variable {l:Str}{o:Int}{j pos pos':Nat}{c:Call}{es:List Int}
theorem Bd.start {b:UInt8}{r:Str}(hl:l=b::r):Bd l (b.toNat:Int) 0 1 ⟨(b.toNat:Int),[],[],[],0,[]⟩ []:=by
 subst hl;refine ⟨rfl,⟨Nat.zero_le _,Nat.zero_le _,Nat.zero_le _,Nat.zero_le _,(by unfold InI64;omega:InI64 0)⟩,λe h=>by simp at h,by simp,.inl ⟨λe h=>by simp at h,⟨?_,rfl,by simp⟩,λd hv _ hd=>?_⟩⟩
 ·rw [opB_nat];rfl
 ·have h1:=(valid_iff.1 hv).1
  have e:=hd;unfold bytes at e;injection e with e1 e2;have h2:=opB_inj h1 e1;rw[<-h2];exact ⟨rfl,rfl,e2.symm⟩
theorem Bd.step (h:Bd l o j pos c es)(hk:j<(parts o).length){x:UInt8}(hx:(parts o)[j]=x){c':Call}{e:Int}(hop:c'.op=c.op)(hle:c'.key.length<=l.length∧c'.other.length<=l.length∧c'.item.length<=l.length∧c'.data.length<=l.length∧InI64 c'.qty)
 (hsame:∀y∈(parts o).take j,pieceB c' y=pieceB c y)
 (he:(e=0∧Cn.Seg (pieceB c' x) l pos pos'∧∀d,valid d=true->InI64 d.qty->x∈parts d.op->(∃r,l.drop pos=pieceB d x++r)->pieceB c' x=pieceB d x∧∀ps,c=cut d ps->c'=cut d (ps++[x]))∨(0<e∧pos'=pos∧∀d,valid d=true->InI64 d.qty->x∈parts d.op->∀r,l.drop pos≠pieceB d x++r)):
 Bd l o (j+1) pos' c' (es++[e]):=by
 obtain ⟨h1,h2,h3,h4,h5⟩:=h;obtain ⟨e1,e2⟩:=take_drop hk hx;refine ⟨hop.trans h1,hle,λq hq=>?_,?_,?_⟩
 ·rcases List.mem_append.1 hq with hq|hq
  ·exact h3 q hq
  ·rw [List.mem_singleton.1 hq];rcases he with ⟨he,_⟩|⟨he,_⟩<;>omega
 ·rcases he with ⟨_,hs,_⟩|⟨_,hp,_⟩
  ·exact hs.2.2
  ·omega
 ·have hfl:((parts o).take j).flatMap (pieceB c')=((parts o).take j).flatMap (pieceB c):=by
   rw[List.flatMap_def,List.flatMap_def];exact congrArg List.flatten (List.map_congr_left hsame)
  rcases h5 with ⟨ha,hs,hu⟩|⟨hb,hn⟩
  ·rcases he with ⟨he,hs2,hd2⟩|⟨he,hp,hd2⟩
   ·refine .inl ⟨λq hq=>?_,?_,λd hv hq hd=>?_⟩
    ·rcases List.mem_append.1 hq with hq|hq
     ·exact ha q hq
     ·rw [List.mem_singleton.1 hq];exact he
    ·refine (hs.app hs2).cast ?_
     rw[e2,List.flatMap_append,hfl,List.flatMap_singleton]
     rfl
    ·obtain ⟨u1,u2,u3⟩:=hu d hv hq hd
     rw[e1,List.flatMap_cons] at u3;have hxm:x∈parts d.op:=by rw[u1,<-hx];exact List.getElem_mem _
     obtain ⟨v1,v2⟩:=hd2 d hv hq hxm ⟨_,u3⟩;refine ⟨u1,by rw[e2];exact v2 _ u2,?_⟩;have:=hs2.1;rw[u3,v1] at this;exact (List.append_cancel_left this).symm
   ·refine .inr ⟨⟨e,by simp,he⟩,λd hv hq hd=>?_⟩
    obtain ⟨u1,u2,u3⟩:=hu d hv hq hd;rw[e1,List.flatMap_cons] at u3;have hxm:x∈parts d.op:=by rw[u1,<-hx];exact List.getElem_mem _
    exact hd2 d hv hq hxm _ u3
  ·obtain ⟨q,hq,hq2⟩:=hb
   exact .inr ⟨⟨q,by simp[hq],hq2⟩,hn⟩
theorem not_mem_take (hk:j<(parts o).length){x:UInt8}(hx:(parts o)[j]=x):∀y∈(parts o).take j,y≠x:=by
 have ho:isOp o=true:=by
  cases h:isOp o with
  |true=>rfl
  |false=>rw[parts_no h] at hk;simp at hk
 rintro y hy rfl;have h1:=parts_nodup ho;rw[<-List.take_append_drop j (parts o),List.drop_eq_getElem_cons hk,hx] at h1;have h2:=(List.nodup_append.1 h1).2.2 y hy y (by simp);exact h2 rfl
def StrR (most:Int)(l:Str)(pos pos':Nat)(s:Str)(e:Int):Prop:=(e=0∧(s.length:Int)<=most∧Cn.Seg (Cn.strB s) l pos pos')∨(0<e∧pos'=pos∧s=[]∧Cn.No (λs:List UInt8=>(s.length:Int)<=most) Cn.strB l pos)
theorem seg_le {t:Str}(h:Cn.Seg t l pos pos'):t.length<=l.length:=by have:=h.2;omega
theorem StrR.le {most:Int}{s:Str}{e:Int}(h:StrR most l pos pos' s e):s.length<=l.length:=by
 rcases h with ⟨_,_,h⟩|⟨_,_,rfl,_⟩
 ·have:=seg_le h
  unfold Cn.strB at this;rw[List.length_append] at this
  omega
 ·exact Nat.zero_le _
theorem Bd.str (h:Bd l o j pos c es)(hk:j<(parts o).length){x:UInt8}(hx:(parts o)[j]=x){c':Call}{e most:Int}{s:Str}(hs:StrR most l pos pos' s e)(hop:c'.op=c.op)(hle:c'.key.length<=l.length∧c'.other.length<=l.length∧c'.item.length<=l.length∧c'.data.length<=l.length∧InI64 c'.qty)
 (hsame:∀y∈(parts o).take j,y≠x->pieceB c' y=pieceB c y)(hp:pieceB c' x=Cn.strB s)(f:Call->Str)(hf:∀d,pieceB d x=Cn.strB (f d))(hm:∀d,valid d=true->x∈parts d.op->((f d).length:Int)<=most)(hc:∀d ps,s=f d->c=cut d ps->c'=cut d (ps++[x])):Bd l o (j+1) pos' c' (es++[e]):=by
 refine h.step hk hx hop hle (λy hy=>hsame y hy (not_mem_take hk hx y hy)) ?_;rcases hs with ⟨h1,h2,h3⟩|⟨h1,h2,_,h3⟩
 ·refine .inl ⟨h1,by rw[hp];exact h3,λd _ _ _ ⟨r,hr⟩=>?_⟩
  rw[hf] at hr;have hu:=h3.uniq (Q:=λ_=>True) Cn.pre_str trivial trivial hr;exact ⟨by rw[hp,hf,hu.1],λps hps=>hc d ps hu.1 hps⟩
 ·exact .inr ⟨h1,h2,λd hv _ hxd r hr=>h3 (f d) r (hm d hv hxd) (by rw[<-hf];exact hr)⟩
theorem right_of {d:Call}(hv:valid d=true){x:UInt8}(hx:x∈parts d.op):right d x=true:=by
 have h1:=valid_iff.1 hv;have h2:=h1.2.2 x (parts_tags h1.1 x hx);unfold part at h2;rwa [if_pos hx] at h2
theorem Bd.key (h:Bd l o j pos c es)(hk:j<(parts o).length)(hx:(parts o)[j]=107){s:Str}{e:Int}(hs:StrR 100 l pos pos' s e):Bd l o (j+1) pos' {c with key:=s} (es++[e]):=
 h.str (x:=107) hk hx hs rfl ⟨hs.le,h.2.1.2⟩ (λy _ hy=>by unfold pieceB;split<;>first|rfl|(exfalso;exact hy (by assumption))|(split<;>first|rfl|(exfalso;exact hy (by assumption))|(split<;>first|rfl|(split<;>first|rfl|(exfalso;exact hy (by assumption)))))) rfl (λd=>d.key) (λd=>rfl) (λd hv hxd=>by have:=(between_iff.1 (right_of hv hxd)).2.2;omega) (λd ps e1 e2=>by rw[cut_key,<-e2,e1])
theorem Bd.other (h:Bd l o j pos c es)(hk:j<(parts o).length)(hx:(parts o)[j]=111){s:Str}{e:Int}(hs:StrR 100 l pos pos' s e):Bd l o (j+1) pos' {c with other:=s} (es++[e]):=
 h.str (x:=111) hk hx hs rfl ⟨h.2.1.1,hs.le,h.2.1.2.2⟩ (λy _ hy=>by unfold pieceB;split<;>first|rfl|(exfalso;exact hy (by assumption))|(split<;>first|rfl|(exfalso;exact hy (by assumption))|(split<;>first|rfl|(split<;>first|rfl|(exfalso;exact hy (by assumption)))))) rfl (λd=>d.other) (λd=>rfl) (λd hv hxd=>by have:=(between_iff.1 (right_of hv hxd)).2.2;omega) (λd ps e1 e2=>by rw[cut_other,<-e2,e1])
theorem Bd.item (h:Bd l o j pos c es)(hk:j<(parts o).length)(hx:(parts o)[j]=105){s:Str}{e:Int}(hs:StrR 100 l pos pos' s e):Bd l o (j+1) pos' {c with item:=s} (es++[e]):=
 h.str (x:=105) hk hx hs rfl ⟨h.2.1.1,h.2.1.2.1,hs.le,h.2.1.2.2.2⟩ (λy _ hy=>by unfold pieceB;split<;>first|rfl|(exfalso;exact hy (by assumption))|(split<;>first|rfl|(exfalso;exact hy (by assumption))|(split<;>first|rfl|(split<;>first|rfl|(exfalso;exact hy (by assumption)))))) rfl (λd=>d.item) (λd=>rfl) (λd hv hxd=>by have:=(between_iff.1 (right_of hv hxd)).2.2;omega) (λd ps e1 e2=>by rw[cut_item,<-e2,e1])
theorem Bd.data (h:Bd l o j pos c es)(hk:j<(parts o).length)(hx:(parts o)[j]=100){s:Str}{e:Int}(hs:StrR 65536 l pos pos' s e):Bd l o (j+1) pos' {c with data:=s} (es++[e]):=
 h.str (x:=100) hk hx hs rfl ⟨h.2.1.1,h.2.1.2.1,h.2.1.2.2.1,hs.le,h.2.1.2.2.2.2⟩ (λy hym hy=>by
  have ho:isOp o=true:=by
   cases h:isOp o with
   |true=>rfl
   |false=>rw[parts_no h] at hk;simp at hk
  have ht:=parts_tags ho y (List.mem_of_mem_take hym);simp only[tags,List.mem_cons,List.not_mem_nil,or_false] at ht;rcases ht with rfl|rfl|rfl|rfl|rfl
  ·rfl
  ·rfl
  ·rfl
  ·rfl
  ·exact absurd rfl hy) rfl (λd=>d.data) (λd=>rfl) (λd hv hxd=>by have:=(valid_iff.1 hv).2.1;omega) (λd ps e1 e2=>by rw[cut_data,<-e2,e1])
def NumR (l:Str)(pos pos':Nat)(n:BitVec 64)(e:Int):Prop:=(e=0∧Cn.Seg (Cn.num n.toNat) l pos pos')∨(0<e∧n=0#64∧pos'=pos∧Cn.No (λ_:BitVec 64=>True) (λq=>Cn.num q.toNat) l pos)
theorem Bd.qty (h:Bd l o j pos c es)(hk:j<(parts o).length)(hx:(parts o)[j]=113){n:BitVec 64}{e:Int}(hs:NumR l pos pos' n e):Bd l o (j+1) pos' {c with qty:=n.toInt} (es++[e]):=by
 have hin:InI64 n.toInt:=by
  unfold InI64;have h1:=BitVec.le_toInt n;have h2:=BitVec.toInt_lt (x:=n)
  simp at h1 h2
  omega
 refine h.step hk hx rfl ⟨h.2.1.1,h.2.1.2.1,h.2.1.2.2.1,h.2.1.2.2.2.1,hin⟩ (λy hy=>?_) ?_
 ·have hy2:=not_mem_take hk hx y hy
  unfold pieceB
  split<;>first|rfl|(split<;>first|rfl|(split<;>first|rfl|(exfalso;exact hy2 (by assumption))))
 ·have hp:pieceB {c with qty:=n.toInt} 113=Cn.num n.toNat:=by
   show Cn.num (Cn.u n.toInt)=_;rw[Cn.u_toInt]
  rcases hs with ⟨h1,h2⟩|⟨h1,_,h2,h3⟩
  ·refine .inl ⟨h1,by rw[hp];exact h2,λd _ hq _ ⟨r,hr⟩=>?_⟩
   have hr2:l.drop pos=Cn.num (BitVec.ofInt 64 d.qty).toNat++r:=hr;have hu:=(h2.uniq (f:=λq:BitVec 64=>Cn.num q.toNat) (Q:=λ_=>True) Cn.pre_num trivial trivial hr2).1;have hd:n.toInt=d.qty:=by
    rw[hu];unfold InI64 at hq;rw[BitVec.toInt_ofInt,Int.bmod_def]
    omega
   exact ⟨by rw[hp,hu];rfl,λps hps=>by rw[cut_qty,<-hps,hd]⟩
  ·exact .inr ⟨h1,h2,λd _ _ _ r hr=>h3 (BitVec.ofInt 64 d.qty) r trivial hr⟩
theorem Bd.fin {e:Int}(h:Bd l o (parts o).length pos c es)(he:e=if pos<l.length then 12 else 0):((∀q∈es++[e],q=0)∧bytes c=l∧∀d,valid d=true->InI64 d.qty->bytes d=l->c=d)∨((∃q∈es++[e],0<q)∧∀d,valid d=true->InI64 d.qty->bytes d≠l):=by
 obtain ⟨h1,h2,h3,h4,h5⟩:=h;rcases h5 with ⟨ha,hs,hu⟩|⟨⟨q,hq,hq2⟩,hn⟩
 ·rw [List.take_length] at hs hu
  rw[List.drop_length] at hu
  by_cases hp:pos<l.length
  ·rw [if_pos hp] at he
   refine .inr ⟨⟨e,by simp,by omega⟩,λd hv hq hd=>?_⟩;obtain ⟨_,_,u3⟩:=hu d hv hq hd;have:=congrArg List.length u3;rw[List.length_drop] at this
   simp at this
   omega
  ·rw [if_neg hp] at he
   refine .inl ⟨λq hq=>?_,?_,λd hv hq hd=>?_⟩
   ·rcases List.mem_append.1 hq with hq|hq
    ·exact ha q hq
    ·rw [List.mem_singleton.1 hq];exact he
   ·have e9:=hs.1
    rw[List.drop_zero,List.drop_eq_nil_of_le (by omega),List.append_nil] at e9;rw[e9];unfold bytes;rw[h1]
   ·obtain ⟨u1,u2,_⟩:=hu d hv hq hd
    rw[u2,<-u1,cut_all hv]
 ·exact .inr ⟨⟨q,by simp[hq],hq2⟩,hn⟩
end
theorem num_r {l:Str}{pos pos':Nat}{n:BitVec 64}{e:Int}(h:(e=0∧n.toNat<=(18446744073709551615#64).toNat∧Cn.Seg (Cn.num n.toNat) l pos pos')∨(0<e∧n=0#64∧pos'=pos∧Cn.No (λq:BitVec 64=>q.toNat<=(18446744073709551615#64).toNat) (λq=>Cn.num q.toNat) l pos)):NumR l pos pos' n e:=by
 rcases h with ⟨h1,_,h2⟩|⟨h1,h2,h3,h4⟩
 ·exact .inl ⟨h1,h2⟩
 ·exact .inr ⟨h1,h2,h3,h4.mono λq _=>by have:=q.isLt;show q.toNat<=18446744073709551615;omega⟩
theorem tag_d {o:Int}{k:Nat}(hk:k<(parts o).length)(h1:¬(((parts o)[k]).toNat:Int)=107)(h2:¬(((parts o)[k]).toNat:Int)=111)(h3:¬(((parts o)[k]).toNat:Int)=113)(h4:¬(((parts o)[k]).toNat:Int)=105):(parts o)[k]=100:=by
 by_cases q:(((parts o)[k]).toNat:Int)=100
 ·exact u8_eq (n:=100) q
 ·exact absurd (tag_q hk h4 q h1 h2) (λe=>h3 (by rw[e];rfl))
theorem bgot_bad {l:Str}{c:Call}{es:List Int}{m:Int}(hf:((∀q∈es,q=0)∧bytes c=l∧∀d,valid d=true->InI64 d.qty->bytes d=l->c=d)∨((∃q∈es,0<q)∧∀d,valid d=true->InI64 d.qty->bytes d≠l))(hn:m∈es)(h:m≠0∨valid c=false):BGot l zeroC 12:=by
 refine .inr ⟨rfl,rfl,?_⟩;rcases hf with ⟨h1,h2,h3⟩|⟨_,h2⟩
 ·intro d hv hq hd
  rcases h with h|h
  ·exact h (h1 m hn)
  ·rw [h3 d hv hq hd,hv] at h;cases h
 ·exact h2
theorem bgot_good {l:Str}{c:Call}{es:List Int}{m:Int}(hf:((∀q∈es,q=0)∧bytes c=l∧∀d,valid d=true->InI64 d.qty->bytes d=l->c=d)∨((∃q∈es,0<q)∧∀d,valid d=true->InI64 d.qty->bytes d≠l))(hm:∀q∈es,q<=m)(h:¬m≠0)(hv:valid c=true)(hq:InI64 c.qty):BGot l c 0:=by
 rcases hf with ⟨_,h2,_⟩|⟨⟨q,h1,h2⟩,_⟩
 ·exact .inl ⟨rfl,hv,hq,h2⟩
 ·have:=hm q h1
  omega
theorem bgot_nil {l:Str}(h:l=[]):BGot l zeroC 12:=.inr ⟨rfl,rfl,λd _ _ hd=>by rw[h] at hd;cases hd⟩
theorem bgot_nop {l r:Str}{b:UInt8}(hl:l=b::r)(h:isOp (b.toNat:Int)=false):BGot l zeroC 12:=.inr ⟨rfl,rfl,λd hv _ hd=>by
 rw[hl] at hd;unfold bytes at hd;injection hd with e1 _;have h1:=(valid_iff.1 hv).1;rw[opB_inj h1 e1,h] at h1;cases h1⟩
theorem bd_short {l:Str}{o:Int}{j pos:Nat}{c:Call}{es:List Int}(h:Bd l o j pos c es)(hl:l.length<=1000000):Short c:=⟨Nat.le_trans h.2.1.1 hl,Nat.le_trans h.2.1.2.1 hl,Nat.le_trans h.2.1.2.2.1 hl,Nat.le_trans h.2.1.2.2.2.1 hl⟩
theorem max_one {l:List Int}(h:0<l.length):∀q∈l.take 1,q<=l[(0:Int).toNat]'(by show 0<_;exact h):=by
 cases l with
 |nil=>simp at h
 |cons a r=>intro q hq;simp at hq;rw[hq];exact Int.le_refl _
theorem max_next {l:List Int}{k:Nat}{m:Int}(hk:k<l.length)(h:∀q∈l.take k,q<=m):∀q∈l.take (k+1),q<=max m (l[(k:Int).toNat]'(by rw[Int.toNat_natCast];exact hk)):=by
 intro q hq;rw[List.take_succ_eq_append_getElem hk] at hq;rcases List.mem_append.1 hq with hq|hq
 ·have:=h q hq;omega
 ·rw [List.mem_singleton.1 hq];simp only[Int.toNat_natCast];omega
theorem max_mem {l:List Int}{a b:Int}(ha:a∈l)(hb:b∈l):max a b∈l:=by
 rw[Int.max_def]
 split
 ·exact hb
 ·exact ha
end Go.Pn.Cl
end
section
namespace Go.Pn
section
variable {P:Program}{n:Nat}{l:List Oper}{N:Val->World->Prop}{X:Nat->Val->World->Prop}{R:Val->World->Prop}{Z:List PanicEntry->World->Prop}{f:Val}{w wB:World}{M:Nat->Prop}
 {pos:String}{after:Array Edge}{ty:TypeId}{x:Operand}{d:Nat}
def DM (P:Program)(n:Nat)(l:List Oper)(listed:Array Bool)(N:Val->World->Prop)(Z:List PanicEntry->World->Prop)(M:Nat->Prop)(wB:World)(fuel:Nat)(f:Val)(w:World):Prop:=
 wpAnyH P .any l.toArray (Q0 n N Z) (λw'=>Ext M wB w') fuel listed (Fr n f) w
theorem C.drawM {id:Nat}(M:Nat->Prop)(hm:P.follows .mixedOrders=true)(h:∀w1,Le w w1->DM P n l (Array.replicate l.toArray.size false) N Z M w1 l.toArray.size f w1):C P n (.region id l.toArray true) N X R Z f w:=by
 refine wp_mono (wp_region_held (S:=λw'=>Ext M {w with drawn:=w.drawn+1} w') hm (h {w with drawn:=w.drawn+1} ⟨rfl,rfl,rfl,Nat.le_refl _,λ_ _ _=>rfl⟩)) ?_;intro e a w he;cases e with
 |normal=>exact he
 |exit i=>obtain ⟨_,_,h⟩:=he;exact h.elim
 |goto l=>exact he
 |ret=>obtain ⟨_,_,h⟩:=he;exact h.elim
 |panic ch=>exact he
 |outgrown=>exact he
theorem DM.done {listed:Array Bool}{fuel:Nat}(hr:Region.ready .any l.toArray listed=[])(h:N f w):DM P n l listed N Z M wB fuel f w:=wpAnyH_done hr ⟨f,rfl,h⟩ fuel
theorem DM.take {listed:Array Bool}{fuel i:Nat}{o:Oper}{d:Nat}{v:Value}(hi:l[i]? =some o)(hg:o.guard=.none)(hd:o.dst=some d)(hdn:Nat.ble (d+1) n=true)
 (hk:(Region.noSelect l.toArray&&Region.free .any l.toArray listed i&&(Region.ready .any l.toArray listed).contains i)=true)
 (hS:Ext M wB w)(hX:∃X:Sem Value,execOp (ev n f) o=(do pure (.value (<-X))))
 (hO:∀w',Ext M wB w'->∀N:Val->World->Prop,N (upd f d v) w'->O P n [o] [o] N (λ_ _=>False) f w')
 (h:DM P n l (listed.setIfInBounds i true) N Z M wB fuel (upd f d v) w):DM P n l listed N Z M wB (fuel+1) f w:=by
 simp only[Bool.and_eq_true] at hk;have hy:YieldsIf P l.toArray (λw'=>Ext M wB w') o v (Fr n f):=
  .inl ⟨by simp[Region.wanted,hg],λw' hw=>by rw[eval_Fr];exact run_of_O hg hd (Nat.le_of_ble_eq_true hdn) hX (hO w' hw)⟩
 refine wpAnyH_take (i:=i) (oi:=o) (v:=v) (by simpa using hi) hk.1.1 hk.1.2 hk.2 (Q0_put _ _) hy hS ?_;rw[hd,put_Fr];exact h
theorem DM.takeYes {listed:Array Bool}{fuel i:Nat}{dst:Option Nat}{op:Op}{ty:TypeId}{pos:String}{after:Array Edge}{j dj:Nat}{b:Bool}{d:Nat}{v:Value}
 (hi:l[i]? =some {dst:=dst,op:=op,type:=ty,pos:=pos,after:=after,guard:=some (j,b)})(hd:dst=some d)(hdn:Nat.ble (d+1) n=true)
 (hk:(Region.noSelect l.toArray&&Region.free .any l.toArray listed i&&(Region.ready .any l.toArray listed).contains i)=true)
 (hj:(l[j]?).bind (·.dst)=some dj)(hv:ev n f (.tmp dj)=.bool b)
 (hS:Ext M wB w)(hX:∃X:Sem Value,execOp (ev n f) {dst:=dst,op:=op,type:=ty,pos:=pos,after:=after,guard:=.none}=(do pure (.value (<-X))))
 (hO:∀w',Ext M wB w'->∀N:Val->World->Prop,N (upd f d v) w'->O P n [{dst:=dst,op:=op,type:=ty,pos:=pos,after:=after,guard:=.none}] [{dst:=dst,op:=op,type:=ty,pos:=pos,after:=after,guard:=.none}] N (λ_ _=>False) f w')
 (h:DM P n l (listed.setIfInBounds i true) N Z M wB fuel (upd f d v) w):DM P n l listed N Z M wB (fuel+1) f w:=by
 simp only[Bool.and_eq_true] at hk;have hy0:yielded l.toArray (Fr n f).tmps j=some b:=by
  have hd:=getD_Fr n f dj;rw[hv] at hd;unfold yielded;have h1:(l.toArray[j]?).bind (·.dst)=some dj:=by simpa using hj
  rw[h1];simp only[Option.bind_some];rw[Array.getD_eq_getD_getElem?] at hd;cases hx:(Fr n f).tmps[dj]? with
  |none=>rw[hx] at hd;simp[undef] at hd
  |some v=>rw[hx] at hd;simp at hd;subst hd;rfl
 have hy:YieldsIf P l.toArray (λw'=>Ext M wB w') {dst:=dst,op:=op,type:=ty,pos:=pos,after:=after,guard:=some (j,b)} v (Fr n f):=
  .inl ⟨by simp[Region.wanted,hy0],λw' hw=>by rw[eval_Fr];exact run_of_O (o:={dst:=dst,op:=op,type:=ty,pos:=pos,after:=after,guard:=.none}) rfl hd (Nat.le_of_ble_eq_true hdn) hX (hO w' hw)⟩
 refine wpAnyH_take (i:=i) (v:=v) (by simpa using hi) hk.1.1 hk.1.2 hk.2 (Q0_put _ _) hy hS ?_;simp only[hd];rw[put_Fr];exact h
theorem DM.step {listed:Array Bool}{fuel j:Nat}{o:Oper}(hi:l[j]? =some o)(hg:o.guard=.none)
 (hO:O P n [o] [o] (λf' w'=>Ext M wB w'∧DM P n l (listed.setIfInBounds j true) N Z M wB fuel f' w') Z f w):
 wpOp P l.toArray (Q0 n N Z) j (λa' w'=>Ext M wB w'∧wpAnyH P .any l.toArray (Q0 n N Z) (λw'=>Ext M wB w') fuel (listed.setIfInBounds j true) a' w') (Fr n f) w:=by
 unfold wpOp;have hi2:l.toArray[j]? =some o:=by simpa using hi
 rw[hi2];unfold O at hO;simp only[wpList,Region.wanted,hg,if_true] at hO ⊢;have key:∀a' w',Q0 n (λf' w'=>Ext M wB w'∧DM P n l (listed.setIfInBounds j true) N Z M wB fuel f' w') Z .normal a' w'->Ext M wB w'∧wpAnyH P .any l.toArray (Q0 n N Z) (λw'=>Ext M wB w') fuel (listed.setIfInBounds j true) a' w':=by
  rintro a' w' ⟨f',rfl,h1,h2⟩;exact ⟨h1,h2⟩
 rcases hO with h|⟨_,a0,w0,h0⟩
 ·left
  unfold Oper.wp at h ⊢
  generalize (execOp (Fr n f).eval o).run P w=r at h ⊢
  cases r with
  |ok nx w'=>
   cases nx with
   |value v=>exact key _ _ h
   |skip=>exact key _ _ h
   |defer d=>exact key _ _ h
   |enter k args=>
    refine Calls.mono h ?_;intro e w'' he;cases e with
    |returned v=>exact key _ _ he
    |panicked ch=>exact he
    |outgrown=>obtain ⟨a0,w0,h0⟩:=he;exact h0.elim
   |row r args=>exact Rows.mono h λv w'' hv=>key _ _ hv
   |_=>exact h.elim
  |halt hh w'=>cases hh<;>first|exact h|exact h.elim
 ·exact h0.elim
theorem DM.one {listed:Array Bool}{fuel i:Nat}{o:Oper}(hi:l[i]? =some o)(hg:o.guard=.none)(hr:Region.ready .any l.toArray listed=[i])
 (hO:O P n [o] [o] (λf' w'=>Ext M wB w'∧DM P n l (listed.setIfInBounds i true) N Z M wB fuel f' w') Z f w):DM P n l listed N Z M wB (fuel+1) f w:=by
 refine wpAnyH_all hr (by simp) ?_;intro j hj;obtain rfl:j=i:=by simpa using hj
 exact DM.step hi hg hO
def DMStep (P:Program)(n:Nat)(l:List Oper)(listed:Array Bool)(N:Val->World->Prop)(Z:List PanicEntry->World->Prop)(M:Nat->Prop)(wB:World)(fuel:Nat)(f:Val)(w:World)(j:Nat):Prop:=
 wpOp P l.toArray (Q0 n N Z) j (λa' w'=>Ext M wB w'∧wpAnyH P .any l.toArray (Q0 n N Z) (λw'=>Ext M wB w') fuel (listed.setIfInBounds j true) a' w') (Fr n f) w
theorem DM.many {listed:Array Bool}{fuel:Nat}(is:List Nat)(hr:Region.ready .any l.toArray listed=is)(hne:is≠[])(h:allP (DMStep P n l listed N Z M wB fuel f w) is):DM P n l listed N Z M wB (fuel+1) f w:=by
 subst hr;exact wpAnyH_all rfl hne (allP_mem h)
theorem DM.stepU {listed:Array Bool}{fuel j:Nat}{o:Oper}(hi:l[j]? =some o)(hg:o.guard=.none)
 (hO:O P n [o] [o] (λf' w'=>Ext M wB w'∧DM P n l (listed.setIfInBounds j true) N Z M wB fuel f' w') Z f w):DMStep P n l listed N Z M wB fuel f w j:=DM.step hi hg hO
theorem DM.takeNo {listed:Array Bool}{fuel i:Nat}{dst:Option Nat}{op:Op}{j dj:Nat}{b:Bool}{d:Nat}
 (hi:l[i]? =some {dst:=dst,op:=op,type:=ty,pos:=pos,after:=after,guard:=some (j,b)})(hd:dst=some d)
 (hk:(Region.noSelect l.toArray&&Region.free .any l.toArray listed i&&(Region.ready .any l.toArray listed).contains i)=true)
 (hS:Ext M wB w)(hj:(l[j]?).bind (·.dst)=some dj)(hv:isB b (ev n f (.tmp dj))=false)
 (h:DM P n l (listed.setIfInBounds i true) N Z M wB fuel (upd f d undef) w):DM P n l listed N Z M wB (fuel+1) f w:=by
 simp only[Bool.and_eq_true] at hk;have hy0:(yielded l.toArray (Fr n f).tmps j==some b)=false:=by
  have hd:=getD_Fr n f dj;unfold yielded;have h1:(l.toArray[j]?).bind (·.dst)=some dj:=by simpa using hj
  rw[h1];simp only[Option.bind_some];rw[Array.getD_eq_getD_getElem?] at hd;cases hx:(Fr n f).tmps[dj]? with
  |none=>rfl
  |some v=>
   rw[hx] at hd;simp only[Option.getD_some] at hd;rw[<-hd] at hv;cases v<;>first|rfl|(simp only[isB] at hv;simpa using hv)
 have hy:YieldsIf P l.toArray (λw'=>Ext M wB w') {dst:=dst,op:=op,type:=ty,pos:=pos,after:=after,guard:=some (j,b)} undef (Fr n f):=
  .inr ⟨by simp only[Region.wanted];exact hy0,rfl⟩
 refine wpAnyH_take (i:=i) (v:=undef) (by simpa using hi) hk.1.1 hk.1.2 hk.2 (Q0_put _ _) hy hS ?_;simp only[hd];rw[put_Fr];exact h
theorem DM.split {listed:Array Bool}{fuel:Nat}{b:Bool}(hx:ev n f x=.bool b)(h1:b=true->DM P n l listed N Z M wB fuel f w)(h2:b=false->DM P n l listed N Z M wB fuel f w):DM P n l listed N Z M wB fuel f w:=by
 cases b
 ·exact h2 rfl
 ·exact h1 rfl
theorem DM.cast {listed:Array Bool}{fuel:Nat}{v v':Value}(hv:v=v')(h:DM P n l listed N Z M wB fuel (upd f d v') w):DM P n l listed N Z M wB fuel (upd f d v) w:=hv ▸ h
theorem DM.oneYes {l:List Oper}{listed:Array Bool}{fuel i:Nat}{dst:Option Nat}{op:Op}{ty:TypeId}{j dj:Nat}{b:Bool}
 (hi:l[i]? =some {dst:=dst,op:=op,type:=ty,pos:=pos,after:=after,guard:=some (j,b)})(hj:(l[j]?).bind (·.dst)=some dj)(hv:ev n f (.tmp dj)=.bool b)(hr:Region.ready .any l.toArray listed=[i])
 (hO:O P n [{dst:=dst,op:=op,type:=ty,pos:=pos,after:=after,guard:=.none}] [{dst:=dst,op:=op,type:=ty,pos:=pos,after:=after,guard:=.none}] (λf' w'=>Ext M wB w'∧DM P n l (listed.setIfInBounds i true) N Z M wB fuel f' w') Z f w):DM P n l listed N Z M wB (fuel+1) f w:=by
 refine wpAnyH_all hr (by simp) ?_;intro i' hi';obtain rfl:i'=i:=by simpa using hi'
 have hy0:yielded l.toArray (Fr n f).tmps j=some b:=by
  have hd:=getD_Fr n f dj;rw[hv] at hd;unfold yielded;have h1:(l.toArray[j]?).bind (·.dst)=some dj:=by simpa using hj
  rw[h1];simp only[Option.bind_some];rw[Array.getD_eq_getD_getElem?] at hd;cases hx:(Fr n f).tmps[dj]? with
  |none=>rw[hx] at hd;simp[undef] at hd
  |some v=>rw[hx] at hd;simp at hd;subst hd;rfl
 unfold wpOp;have hi2:l.toArray[i']? =some {dst:=dst,op:=op,type:=ty,pos:=pos,after:=after,guard:=some (j,b)}:=by simpa using hi
 rw[hi2];unfold O at hO;simp only[wpList,Region.wanted,if_true,hy0,beq_self_eq_true] at hO ⊢;have key:∀a' w',Q0 n (λf' w'=>Ext M wB w'∧DM P n l (listed.setIfInBounds i' true) N Z M wB fuel f' w') Z .normal a' w'->Ext M wB w'∧wpAnyH P .any l.toArray (Q0 n N Z) (λw'=>Ext M wB w') fuel (listed.setIfInBounds i' true) a' w':=by
  rintro a' w' ⟨f',rfl,h1,h2⟩;exact ⟨h1,h2⟩
 rcases hO with h|⟨_,a0,w0,h0⟩
 ·left
  unfold Oper.wp at h ⊢;have hex:execOp (Fr n f).eval {dst:=dst,op:=op,type:=ty,pos:=pos,after:=after,guard:=some (j,b)}=execOp (Fr n f).eval {dst:=dst,op:=op,type:=ty,pos:=pos,after:=after,guard:=.none}:=rfl;rw[hex]
  generalize (execOp (Fr n f).eval {dst:=dst,op:=op,type:=ty,pos:=pos,after:=after,guard:=.none}).run P w=r at h ⊢
  cases r with
  |ok nx w'=>
   cases nx with
   |value v=>exact key _ _ h
   |skip=>exact key _ _ h
   |defer d=>exact key _ _ h
   |enter k args=>
    refine Calls.mono h ?_;intro e w'' he;cases e with
    |returned v=>exact key _ _ he
    |panicked ch=>exact he
    |outgrown=>obtain ⟨a0,w0,h0⟩:=he;exact h0.elim
   |row r args=>exact Rows.mono h λv w'' hv=>key _ _ hv
   |_=>exact h.elim
  |halt hh w'=>cases hh<;>first|exact h|exact h.elim
 ·exact h0.elim
end
end Go.Pn
end
section
namespace Go.Pn
open Go.RowKit
def BytW (te:TypeId)(w:World)(F:Nat->Prop)(v:Value)(n:Nat):Prop:=
 (v=.slice none 0 0∧n=0)∨∃(b cap:Nat) (bs:List UInt8),v=.slice (some ⟨b,0,none⟩) n cap∧F b∧Own w b te (bs.flatMap byteF.e)∧n<=bs.length∧bs.length=cap∧cap<=maxLen
section
variable {te:TypeId}{w w':World}{F F' M:Nat->Prop}{v:Value}{n:Nat}
theorem BytW.nil (te:TypeId)(w:World)(F:Nat->Prop):BytW te w F (.slice none 0 0) 0:=.inl ⟨rfl,rfl⟩
theorem BytW.kM (h:BytW te w F v n)(e:Ext M w w')(hM:∀k,F k->¬M k):BytW te w' F v n:=by
 rcases h with h|⟨b,cap,bs,h1,h2,h3,h4⟩
 ·exact .inl h
 ·exact .inr ⟨b,cap,bs,h1,h2,h3.kM e (hM b h2),h4⟩
theorem BytW.keepA (h:BytW te w F v n)(e:Ext M w w')(hM:∀k,F k->¬M k:=by intro k hk h;first|(have q:=hF k hk;(try dsimp only at h);omega)|(have q:=hF2 k hk;(try dsimp only at h);omega)|(have q:=hFb k hk;(try dsimp only at h);omega)|((try dsimp only at hk);(try dsimp only at h);omega)):BytW te w' F v n:=h.kM e hM
theorem BytW.L (h:BytW te w F v n)(e:Le w w'):BytW te w' F v n:=h.kM e λ_ _=>not_false
theorem BytW.weak (h:BytW te w F v n)(hF:∀k,F k->F' k):BytW te w F' v n:=by
 rcases h with h|⟨b,cap,bs,h1,h2,h3⟩
 ·exact .inl h
 ·exact .inr ⟨b,cap,bs,h1,hF b h2,h3⟩
theorem zeros_flat (k:Nat):List.replicate k (Value.int .u8 0)=(List.replicate k (0:UInt8)).flatMap byteF.e:=by
 rw[byteF_map,List.map_replicate]
 rfl
theorem Sl.cap_le {α:Type}{E:Enc α}{a:Option Addr}{m cap:Nat}{xs:List α}(h:Sl E w F (.slice a m cap) xs):cap<=maxLen:=by
 rcases h.2 with ⟨_,h1,_⟩|⟨_,_,_,_,_,_,h1,_,_,_,h2,_⟩
 ·injection h1 with _ _ h3;rw[h3];exact Nat.zero_le _
 ·injection h1 with _ _ h3;rw[h3];exact h2
theorem BytW.strB {l:List UInt8}{b cap:Nat}(h:Own w b te (l.flatMap byteF.e++List.replicate (cap-l.length) (.int .u8 0)))(hc:l.length<=cap){w0:World}{F0:Nat->Prop}(hs:Sl byteE w0 F0 (.slice (some ⟨b,0,none⟩) l.length cap) l):BytW te w (bk (.slice (some ⟨b,0,none⟩) l.length cap)) (.slice (some ⟨b,0,none⟩) l.length cap) l.length:=by
 have hm:=hs.cap_le;rw[zeros_flat,<-List.flatMap_append] at h;exact .inr ⟨b,cap,_,rfl,rfl,h,by simp,by simp;omega,hm⟩
end
end Go.Pn
end
section
namespace Go.Pn.Cl
open Go Go.Pn Go.Lib
abbrev Line:=Str×Int
structure Ans where
 op:Int
 err:Int
 count:Int
 lines:List Line
 bats:List Str
theorem Ans.ext' {a b:Ans}(h1:a.op=b.op)(h2:a.err=b.err)(h3:a.count=b.count)(h4:a.lines=b.lines)(h5:a.bats=b.bats):a=b:=by
 cases a;cases b;simp_all
def zeroA:Ans:=⟨0,0,0,[],[]⟩
def lineOk (x:Line):Bool:=decide (0<=x.2)&&between 32 x.1
def batOk (b:Str):Bool:=decide (1<=b.length∧b.length<=65536)
def Hd (a:Ans):Prop:=isOp a.op=true∧(0<=a.err∧a.err<=99∧0<=a.count)∧(a.op=4∨a.lines=[])∧(a.op=10∨a.bats=[])∧a.lines.length<=1024∧a.bats.length<=1024
instance (a:Ans):Decidable (Hd a):=by unfold Hd;infer_instance
def Fin (a:Ans):Prop:=a.err=0∨(a.count=0∧a.lines=[]∧a.bats=[])
instance (a:Ans):Decidable (Fin a):=by unfold Fin;infer_instance
def hasT (a:Ans):Bool:=decide (Hd a)&&(a.lines.all lineOk&&a.bats.all batOk)&&decide (Fin a)
theorem hasT_iff {a:Ans}:hasT a=true↔Hd a∧(∀x∈a.lines,lineOk x=true)∧(∀x∈a.bats,batOk x=true)∧Fin a:=by
 unfold hasT;simp only[Bool.and_eq_true,List.all_eq_true,decide_eq_true_eq];exact ⟨λ⟨⟨h1,h2,h3⟩,h4⟩=>⟨h1,h2,h3,h4⟩,λ⟨h1,h2,h3,h4⟩=>⟨⟨h1,h2,h3⟩,h4⟩⟩
def InA (a:Ans):Prop:=InI64 a.err∧InI64 a.count∧∀x∈a.lines,InI64 x.2
def okW:Str:=[111,107]
def errW:Str:=[101,114,114,111,114]
def sayN (a:Ans):Int:=if a.err=0 then a.count else a.err
def first (a:Ans):List Str:=[if a.err=0 then okW else errW,word a.op,itoa (sayN a)]
def lineL (x:Line):List Str:=[itoa x.2,x.1]
def lineT (x:Line):Str:=Vc.jn (lineL x)
def rowsT (a:Ans):List Str:=Vc.jn (first a)::(a.lines.map lineT++a.bats.map hex)
def lns (l:List Str):Str:=l.flatMap (λr=>r++[10])
def said (a:Ans):Str:=lns (rowsT a)
theorem first_eq (a:Ans):Vc.jn (first a)=(if a.err=0 then okW else errW)++32::(word a.op++32::itoa (sayN a)):=by
 unfold first
 rw[jn_two,jn_two,jn_one]
theorem lineT_eq (x:Line):lineT x=itoa x.2++32::x.1:=by
 unfold lineT lineL;rw[jn_two,jn_one]
def sp (c:UInt8):Str->List Str
 |[]=>[[]]
 |b::l=>if b=c then []::sp c l else match sp c l with
  |[]=>[[b]]
  |x::r=>(b::x)::r
theorem sp_ne (c:UInt8):∀s,sp c s≠[]
 |[]=>by simp[sp]
 |b::l=>by
  unfold sp
  split
  ·simp
  ·split<;>simp
theorem sp_cons {c b:UInt8}{l x:Str}{r:List Str}(hb:b≠c)(h:sp c l=x::r):sp c (b::l)=(b::x)::r:=by
 unfold sp;rw[if_neg hb,h]
theorem sp_hit (c:UInt8)(l:Str):sp c (c::l)=[]::sp c l:=by
 conv=>lhs;unfold sp
 rw[if_pos rfl]
theorem sp_app {c:UInt8}:∀{a:Str},(∀x∈a,x≠c)->∀b,sp c (a++c::b)=a::sp c b
 |[],_,b=>sp_hit c b
 |y::a,h,b=>sp_cons (h y (by simp)) (sp_app (a:=a) (λx hx=>h x (by simp[hx])) b)
theorem sp_no {c:UInt8}:∀{a:Str},(∀x∈a,x≠c)->sp c a=[a]
 |[],_=>rfl
 |y::a,h=>sp_cons (h y (by simp)) (sp_no (a:=a) (λx hx=>h x (by simp[hx])))
theorem sp_len (c:UInt8):∀s:Str,(sp c s).length<=s.length+1∧∀x∈sp c s,x.length<=s.length
 |[]=>by simp[sp]
 |b::l=>by
  have ih:=sp_len c l;unfold sp
  split
  ·refine ⟨by simp only[List.length_cons];omega,λx hx=>?_⟩
   rcases List.mem_cons.1 hx with rfl|hx
   ·exact Nat.zero_le _
   ·have:=ih.2 x hx;simp only[List.length_cons];omega
  ·split
   ·refine ⟨by simp,λx hx=>?_⟩
    rw[List.mem_singleton.1 hx];simp
   ·rename_i x r e
    rw[e] at ih;refine ⟨by have:=ih.1;simp only[List.length_cons] at*;omega,λy hy=>?_⟩;rcases List.mem_cons.1 hy with rfl|hy
    ·have:=ih.2 x (by simp);simp only[List.length_cons];omega
    ·have:=ih.2 y (by simp[hy]);simp only[List.length_cons];omega
theorem ix_parts {s:Str}{c:UInt8}(h:c∈s):∃a b,s=a++c::b∧(∀x∈a,x≠c)∧indexByte s c=(a.length:Int):=by
 have h0:=mem_ix.2 h;obtain ⟨h2,h3⟩:=indexByte_some (l:=s) (c:=c) (o:=(indexByte s c).toNat) (by omega);obtain ⟨h4,h5⟩:=List.getElem?_eq_some_iff.1 h2;refine ⟨s.take (indexByte s c).toNat,s.drop ((indexByte s c).toNat+1),?_,?_,?_⟩
 ·have e:=List.drop_eq_getElem_cons h4
  rw[h5] at e;rw[<-e,List.take_append_drop]
 ·intro x hx
  obtain ⟨k,hk,rfl⟩:=List.mem_iff_getElem.1 hx;rw[List.getElem_take];intro e;have hk':k<(indexByte s c).toNat:=by simp at hk;omega
  exact h3 k hk' (by rw[List.getElem?_eq_getElem (by omega),e])
 ·rw [List.length_take];omega
theorem splitK_sp (c:UInt8):∀(n:Nat) (s:Str),s.count c=n->splitK [c] 0 n s=sp c s
 |0,s,h=>by
  have:∀x∈s,x≠c:=by
   rintro x hx rfl;have:=List.count_pos_iff.2 hx
   omega
  rw[sp_no this];rfl
 |n+1,s,h=>by
  have hm:c∈s:=List.count_pos_iff.1 (by omega);obtain ⟨a,b,rfl,ha,hi⟩:=ix_parts hm;have hc:a.count c=0:=List.count_eq_zero.2 λq=>ha c q rfl
  rw[List.count_append,hc,List.count_cons_self] at h;unfold splitK;rw[index_one,hi,if_neg (by simp only[beq_iff_eq];omega),Int.toNat_natCast,sp_app ha];have e1:(a++c::b).take (a.length+0)=a:=by simp
  have e2:(a++c::b).drop (a.length+[c].length)=b:=by
   rw[List.length_singleton,<-List.drop_drop,List.drop_left];rfl
  rw[e1,e2,splitK_sp c n b (by omega)]
theorem splitB_sp (s:Str)(c:UInt8):(splitB ⟨#[c]⟩ 0 (countB ⟨s.toArray⟩ ⟨#[c]⟩) ⟨s.toArray⟩).map Value.string=(sp c s).map str∧countB ⟨s.toArray⟩ ⟨#[c]⟩+1=(sp c s).length:=by
 have h0:countB ⟨s.toArray⟩ ⟨#[c]⟩=s.count c:=by
  show Lib.count s [c]=_;rw[Lib.count_one]
 have h1:=splitB_data ⟨#[c]⟩ 0 (countB ⟨s.toArray⟩ ⟨#[c]⟩) ⟨s.toArray⟩;have h2:=splitK_sp c _ s h0.symm;have h3:(splitB ⟨#[c]⟩ 0 (countB ⟨s.toArray⟩ ⟨#[c]⟩) ⟨s.toArray⟩).map (·.data.toList)=sp c s:=h1.trans h2;refine ⟨?_,?_⟩
 ·rw [<-h3,List.map_map]
  apply List.map_congr_left
  intro x _
  rfl
 ·rw [<-h3,List.length_map]
  exact (Lib.splitB_all ⟨#[c]⟩ (Nat.le_refl 1) 0 _ ⟨s.toArray⟩ rfl).symm
def jl:List Str->Str
 |[]=>[]
 |[a]=>a
 |a::b::r=>a++10::jl (b::r)
theorem lns_jl:∀{l:List Str},l≠[]->lns l=jl l++[10]
 |[],h=>absurd rfl h
 |[a],_=>by simp[lns,jl]
 |a::b::r,_=>by
  have ih:=lns_jl (l:=b::r) (by simp);show (a++[10])++lns (b::r)=(a++10::jl (b::r))++[10];rw[ih];simp
theorem sp_jl:∀{l:List Str},l≠[]->(∀x∈l,∀y∈x,y≠10)->sp 10 (jl l)=l
 |[],h,_=>absurd rfl h
 |[a],_,hn=>sp_no (hn a (by simp))
 |a::b::r,_,hn=>by
  show sp 10 (a++10::jl (b::r))=_;rw[sp_app (hn a (by simp)),sp_jl (l:=b::r) (by simp) λx hx=>hn x (by simp[List.mem_cons.1 hx])]
theorem trim_lns (x:Str):trimSuffix (x++[10]) [10]=x:=by
 unfold trimSuffix hasSuffix;rw[if_pos (by simp)]
 simp
theorem trim_len (s:Str):(trimSuffix s [10]).length<=s.length:=by
 unfold trimSuffix
 split
 ·simp
 ·exact Nat.le_refl _
def rowsOf (s:Str):List Str:=sp 10 (trimSuffix s [10])
theorem rowsOf_lns {l:List Str}(h:l≠[])(hn:∀x∈l,∀y∈x,y≠10):rowsOf (lns l)=l:=by
 unfold rowsOf;rw[lns_jl h,trim_lns,sp_jl h hn]
theorem dig_ln {l:Str}:∀y∈hex l,y≠10:=by
 intro y hy;obtain ⟨n,hn,rfl⟩:=hex_mem hy;exact ne_of_nat (n:=10) (dig_plain n hn).2.1 (by decide)
theorem itoa_ln {n:Int}:∀y∈itoa n,y≠10:=by
 intro y hy;exact ne_of_nat (n:=10) (by have:=itoa_mem hy;omega) (by decide)
theorem itoa_sp {n:Int}:∀y∈itoa n,y≠32:=by
 intro y hy;exact ne_of_nat (n:=32) (by have:=itoa_mem hy;omega) (by decide)
theorem btw_ln {s:Str}(h:between 32 s=true):∀y∈s,y≠10:=by
 intro y hy;exact ne_of_nat (n:=10) (by have:=(between_iff.1 h).1 y hy;omega) (by decide)
theorem headW_plain (a:Ans):∀y∈(if a.err=0 then okW else errW),y≠32∧y≠10:=by
 split
 ·decide
 ·decide
theorem first_ln {a:Ans}(ho:isOp a.op=true):∀y∈Vc.jn (first a),y≠10:=by
 rw[first_eq];intro y hy;rcases List.mem_append.1 hy with hy|hy
 ·exact (headW_plain a y hy).2
 ·rcases List.mem_cons.1 hy with rfl|hy
  ·decide
  ·rcases List.mem_append.1 hy with hy|hy
   ·exact (word_plain ho y hy).2
   ·rcases List.mem_cons.1 hy with rfl|hy
    ·decide
    ·exact itoa_ln y hy
theorem lineT_ln {x:Line}(h:lineOk x=true):∀y∈lineT x,y≠10:=by
 rw[lineT_eq];unfold lineOk at h;rw[Bool.and_eq_true] at h;intro y hy;rcases List.mem_append.1 hy with hy|hy
 ·exact itoa_ln y hy
 ·rcases List.mem_cons.1 hy with rfl|hy
  ·decide
  ·exact btw_ln h.2 y hy
theorem rows_ln {a:Ans}(h:hasT a=true):∀x∈rowsT a,∀y∈x,y≠10:=by
 obtain ⟨h1,h2,h3,h4⟩:=hasT_iff.1 h;intro x hx;rcases List.mem_cons.1 hx with rfl|hx
 ·exact first_ln h1.1
 ·rcases List.mem_append.1 hx with hx|hx
  ·obtain ⟨l,hl,rfl⟩:=List.mem_map.1 hx
   exact lineT_ln (h2 l hl)
  ·obtain ⟨l,hl,rfl⟩:=List.mem_map.1 hx
   exact dig_ln
theorem rowsOf_said {a:Ans}(h:hasT a=true):rowsOf (said a)=rowsT a:=rowsOf_lns (by simp[rowsT]) (rows_ln h)
def heads (s:Str):List Str:=sp 32 s++[[],[]]
theorem heads_first {a:Ans}(ho:isOp a.op=true):heads (Vc.jn (first a))=first a++[[],[]]:=by
 unfold heads;rw[first_eq,sp_app (λy hy=>(headW_plain a y hy).1),sp_app (λy hy=>(word_plain ho y hy).1),sp_no itoa_sp]
 rfl
theorem heads_len (s:Str):3<=(heads s).length∧(heads s).length<=s.length+3∧∀x∈heads s,x.length<=s.length:=by
 have h1:=sp_len 32 s;have h2:=List.length_pos_iff.2 (sp_ne 32 s);unfold heads;rw[List.length_append];refine ⟨by simp;omega,by simp;omega,λx hx=>?_⟩;rcases List.mem_append.1 hx with hx|hx
 ·exact h1.2 x hx
 ·simp at hx;subst hx;exact Nat.zero_le _
end Go.Pn.Cl
end
section
namespace Go.Pn.Cl
open Go Go.Pn Go.Lib
def AGot (s:Str)(a:Ans)(e:Int):Prop:=(e=0∧hasT a=true∧InA a∧said a=s)∨(e=6∧a=zeroA∧∀d,hasT d=true->InA d->said d≠s)
def ARGot (s:Str)(a:Ans)(b:Bool):Prop:=(b=true->hasT a=true∧InA a∧said a=s)∧(b=false->∀d,hasT d=true->InA d->said d≠s)
def ShortA (a:Ans):Prop:=a.lines.length<=1000001∧a.bats.length<=1000001∧(∀x∈a.lines,x.1.length<=1000000)∧∀b∈a.bats,b.length<=1000000
def RdA (s:Str)(l:List Str)(o:Int)(k:Nat)(a:Ans):Prop:=
 (isOp o=true∧a.op=o∧InA a∧a.lines.length<=k∧a.bats.length<=k∧(∀x∈a.lines,x.1.length<=s.length)∧∀x∈a.bats,x.length<=s.length)∧
 ∀d,hasT d=true->InA d->said d=s->l=rowsT d∧a={d with lines:=d.lines.take k,bats:=d.bats.take k}
theorem sayN_in {a:Ans}(h:InA a):InI64 (sayN a):=by
 unfold sayN
 split
 ·exact h.2.1
 ·exact h.1
theorem ok_ne:okW≠errW:=by decide
section
variable {s x:Str}{l hd:List Str}{o n:Int}{k:Nat}{a:Ans}
def sta (o n:Int)(w:Str):Ans:=if w=okW then ⟨o,0,n,[],[]⟩ else ⟨o,n,0,[],[]⟩
theorem sta_ok {w:Str}(h:w=okW):(⟨o,0,n,[],[]⟩:Ans)=sta o n w:=by unfold sta;rw[if_pos h]
theorem sta_err {w:Str}(h:w≠okW):(⟨o,n,0,[],[]⟩:Ans)=sta o n w:=by unfold sta;rw[if_neg h]
theorem in0:InI64 0:=by unfold InI64;omega
theorem RdA.sta0 {w0 w1 w2:Str}(ho:isOp o=true)(hw:word o=w1)(hi:InI64 n)(hn:∀q,InI64 q->w2=itoa q->n=q)(hl:∀d,hasT d=true->said d=s->l=rowsT d∧w0=(if d.err=0 then okW else errW)∧w1=word d.op∧w2=itoa (sayN d)):RdA s l o 0 (Cl.sta o n w0):=by
 refine ⟨⟨ho,?_,?_,?_,?_,?_,?_⟩,λd hv hI hd=>?_⟩
 ·unfold Cl.sta;split<;>rfl
 ·unfold Cl.sta;split
  ·exact ⟨in0,hi,λ_ h=>by cases h⟩
  ·exact ⟨hi,in0,λ_ h=>by cases h⟩
 ·unfold Cl.sta;split<;>exact Nat.zero_le _
 ·unfold Cl.sta;split<;>exact Nat.zero_le _
 ·unfold Cl.sta;split<;>exact λ_ h=>by cases h
 ·unfold Cl.sta;split<;>exact λ_ h=>by cases h
 ·obtain ⟨h1,h2,h3,h4⟩:=hl d hv hd
  obtain ⟨k1,_,_,k4⟩:=hasT_iff.1 hv;have e1:=word_inj ho k1.1 (hw.trans h3);have e2:=hn _ (sayN_in hI) h4;refine ⟨h1,?_⟩;unfold Cl.sta
  by_cases e:d.err=0
  ·rw [if_pos e] at h2
   unfold sayN at e2;rw[if_pos e] at e2;rw[if_pos h2];exact Ans.ext' e1 e.symm e2 rfl rfl
  ·rw [if_neg e] at h2
   unfold sayN at e2;rw[if_neg e] at e2;rw[if_neg (by rw[h2];exact ok_ne.symm)];rcases k4 with q|q
   ·exact absurd q e
   ·exact Ans.ext' e1 e2 q.1.symm rfl rfl
theorem RdA.start {w0 w1 w2:Str}(hl:rowsOf s=l)(h0:l[0]? =some x)(hh:heads x=hd)(e0:hd[0]? =some w0)(e1:hd[1]? =some w1)(e2:hd[2]? =some w2)(ho:isOp o=true)(hw:word o=w1)(hi:InI64 n)(hn:∀q,InI64 q->w2=itoa q->n=q):RdA s l o 0 (Cl.sta o n w0):=by
 refine RdA.sta0 ho hw hi hn λd hv hd9=>?_
 have h1:=rowsOf_said hv;rw[hd9,hl] at h1;have h2:x=Vc.jn (first d):=by
  rw[h1] at h0;exact (Option.some.inj h0).symm
 rw[h2,heads_first (hasT_iff.1 hv).1.1] at hh;rw[<-hh] at e0 e1 e2;exact ⟨h1,(Option.some.inj e0).symm,(Option.some.inj e1).symm,(Option.some.inj e2).symm⟩
theorem get_succ (h:l=rowsT a)(hx:l[k+1]? =some x):(a.lines.map lineT++a.bats.map hex)[k]? =some x:=by
 rw[h] at hx;exact hx
theorem RdA.line (h:RdA s l o k a)(ho:o=4)(hx:l[k+1]? =some x)(hxl:x.length<=s.length)(hi:InI64 n)(hn:∀q,InI64 q->(ct x).1=itoa q->n=q):RdA s l o (k+1) {a with lines:=a.lines++[((ct x).2,n)]}:=by
 obtain ⟨⟨h1,h2,h3,h4,h5,h6,h7⟩,h9⟩:=h;refine ⟨⟨h1,h2,⟨h3.1,h3.2.1,λy hy=>?_⟩,?_,Nat.le_succ_of_le h5,λy hy=>?_,h7⟩,λd hv hI hd=>?_⟩
 ·rcases List.mem_append.1 hy with hy|hy
  ·exact h3.2.2 y hy
  ·rw [List.mem_singleton.1 hy];exact hi
 ·show (a.lines++[_]).length<=_
  rw[List.length_append,List.length_singleton];omega
 ·rcases List.mem_append.1 hy with hy|hy
  ·exact h6 y hy
  ·rw [List.mem_singleton.1 hy];exact Nat.le_trans (ct_len x).2 hxl
 ·obtain ⟨k1,k2⟩:=h9 d hv hI hd
  obtain ⟨k3,_,_,_⟩:=hasT_iff.1 hv;have e1:d.op=4:=by rw[k2] at h2;exact h2.trans ho
  have e2:d.bats=[]:=k3.2.2.2.1.resolve_left (by rw[e1];decide);have hg:=get_succ k1 hx;rw[e2,List.map_nil,List.append_nil,List.getElem?_map] at hg;obtain ⟨y,hy,e3⟩:=Option.map_eq_some_iff.1 hg;obtain ⟨hk,e4⟩:=List.getElem?_eq_some_iff.1 hy;have e5:ct x=(itoa y.2,y.1):=by rw[<-e3,lineT_eq,ct_at itoa_sp]
  have e6:=hn y.2 (hI.2.2 y (e4 ▸ List.getElem_mem _)) (by rw[e5]);refine ⟨k1,?_⟩;rw[k2];refine Ans.ext' rfl rfl rfl ?_ ?_
  ·show d.lines.take k++[((ct x).2,n)]=d.lines.take (k+1)
   rw[List.take_succ_eq_append_getElem hk,e4,e5,e6]
  ·show d.bats.take k=d.bats.take (k+1)
   rw[e2,List.take_nil,List.take_nil]
theorem RdA.bat (h:RdA s l o k a)(ho:o≠4)(hx:l[k+1]? =some x){b:Str}(hb:b.length<=s.length)(hn:∀y,x=hex y->b=y):RdA s l o (k+1) {a with bats:=a.bats++[b]}:=by
 obtain ⟨⟨h1,h2,h3,h4,h5,h6,h7⟩,h9⟩:=h;refine ⟨⟨h1,h2,h3,Nat.le_succ_of_le h4,?_,h6,λy hy=>?_⟩,λd hv hI hd=>?_⟩
 ·show (a.bats++[_]).length<=_
  rw[List.length_append,List.length_singleton];omega
 ·rcases List.mem_append.1 hy with hy|hy
  ·exact h7 y hy
  ·rw [List.mem_singleton.1 hy];exact hb
 ·obtain ⟨k1,k2⟩:=h9 d hv hI hd
  obtain ⟨k3,_,_,_⟩:=hasT_iff.1 hv;have e1:d.op=o:=by rw[k2] at h2;exact h2
  have e2:d.lines=[]:=k3.2.2.1.resolve_left (by rw[e1];exact ho);have hg:=get_succ k1 hx;rw[e2,List.map_nil,List.nil_append,List.getElem?_map] at hg;obtain ⟨y,hy,e3⟩:=Option.map_eq_some_iff.1 hg;obtain ⟨hk,e4⟩:=List.getElem?_eq_some_iff.1 hy;refine ⟨k1,?_⟩;rw[k2];refine Ans.ext' rfl rfl rfl ?_ ?_
  ·show d.lines.take k=d.lines.take (k+1)
   rw[e2,List.take_nil,List.take_nil]
  ·show d.bats.take k++[b]=d.bats.take (k+1)
   rw[List.take_succ_eq_append_getElem hk,e4,hn y e3.symm]
theorem RdA.end (h:RdA s l o k a)(hk:l.length=k+1){d:Ans}(hv:hasT d=true)(hI:InA d)(hd:said d=s):a=d:=by
 obtain ⟨k1,k2⟩:=h.2 d hv hI hd;rw[k1] at hk;simp only[rowsT,List.length_cons,List.length_append,List.length_map] at hk;rw[k2];refine Ans.ext' rfl rfl rfl (List.take_of_length_le (by omega)) (List.take_of_length_le (by omega))
theorem RdA.ina (h:RdA s l o k a):InA a:=h.1.2.2.1
theorem RdA.short (h:RdA s l o k a)(hk:k<=1000001)(hs:s.length<=1000000):ShortA a:=
 ⟨Nat.le_trans h.1.2.2.2.1 hk,Nat.le_trans h.1.2.2.2.2.1 hk,λx hx=>Nat.le_trans (h.1.2.2.2.2.2.1 x hx) hs,λx hx=>Nat.le_trans (h.1.2.2.2.2.2.2 x hx) hs⟩
theorem AGot.bad (h:∀d,hasT d=true->InA d->said d=s->a=d)(hb:¬(hasT a=true∧said a=s)):AGot s zeroA 6:=
 .inr ⟨rfl,rfl,λd hv hq hd=>hb (by have e:=h d hv hq hd;subst e;exact ⟨hv,hd⟩)⟩
def Sd (a:Ans)(t:Str)(e:Int):Prop:=(hasT a=true∧t=said a∧e=0)∨(hasT a=false∧t=[]∧e=2)
theorem Sd.bad1 {t:Str}{e:Int}(ht:Sd a t e)(h:e≠0):¬(hasT a=true∧said a=s):=by
 rintro ⟨h1,_⟩;rcases ht with ⟨_,_,h2⟩|⟨h2,_⟩
 ·exact h h2
 ·rw [h1] at h2;cases h2
theorem Sd.bad2 {t:Str}{e:Int}(ht:Sd a t e)(h:t≠s):¬(hasT a=true∧said a=s):=by
 rintro ⟨h1,h3⟩;rcases ht with ⟨_,h2,_⟩|⟨h2,_⟩
 ·exact h (h2.trans h3)
 ·rw [h1] at h2;cases h2
theorem Sd.good {t:Str}{e:Int}(ht:Sd a t e)(h1:¬e≠0)(h2:¬t≠s):hasT a=true∧said a=s:=by
 rcases ht with ⟨a,b,_⟩|⟨_,_,h⟩
 ·exact ⟨a,b.symm.trans (Decidable.of_not_not h2)⟩
 ·omega
theorem AGot.stop {w1:Str}(hl:rowsOf s=l)(h0:l[0]? =some x)(hh:heads x=hd)(e1:hd[1]? =some w1)(h:opOf w1=0):AGot s zeroA 6:=.inr ⟨rfl,rfl,λd hv _ hd9=>by
 have h1:=rowsOf_said hv;rw[hd9,hl] at h1;have h2:x=Vc.jn (first d):=by
  rw[h1] at h0;exact (Option.some.inj h0).symm
 have ho:=(hasT_iff.1 hv).1.1;rw[h2,heads_first ho] at hh;rw[<-hh] at e1;have e2:w1=word d.op:=(Option.some.inj e1).symm;have:=opOf_of ho;rw[<-e2,h] at this;have h3:=of_decide_eq_true ho
 omega⟩
def ScA (s:Str)(i fr:Nat)(l:List Str):Prop:=(fr<=i∧i<=s.length∧l.length<=i)∧s.take fr=lns l∧(∀x∈l,∀y∈x,y≠10)∧(∀x∈l,x.length<=s.length)∧∀y∈(s.take i).drop fr,y≠10
theorem ScA.start (s:Str):ScA s 0 0 []:=⟨⟨Nat.le_refl _,Nat.zero_le _,Nat.le_refl _⟩,rfl,λ_ h=>(by cases h),λ_ h=>(by cases h),λy h=>by simp at h⟩
theorem ScA.no {i fr:Nat}(h:ScA s i fr l)(hi:i<s.length)(hc:s[i]≠10):ScA s (i+1) fr l:=by
 obtain ⟨⟨h1,h2,h0⟩,h3,h4,h5,h6⟩:=h;refine ⟨⟨by omega,by omega,by omega⟩,h3,h4,h5,λy hy=>?_⟩;rw[List.take_succ_eq_append_getElem hi,List.drop_append_of_le_length (by simp;omega)] at hy;rcases List.mem_append.1 hy with hy|hy
 ·exact h6 y hy
 ·rw [List.mem_singleton.1 hy];exact hc
theorem ScA.yes {i fr:Nat}(h:ScA s i fr l)(hi:i<s.length)(hc:s[i]=10):ScA s (i+1) (i+1) (l++[(s.take i).drop fr]):=by
 obtain ⟨⟨h1,h2,h0⟩,h3,h4,h5,h6⟩:=h;refine ⟨⟨Nat.le_refl _,by omega,by rw[List.length_append,List.length_singleton];omega⟩,?_,λx hx=>?_,λx hx=>?_,λy hy=>?_⟩
 ·rw [List.take_succ_eq_append_getElem hi,hc]
  unfold lns at h3 ⊢;rw[List.flatMap_append,<-h3];show _=_++(((s.take i).drop fr++[10])++[]);have e:s.take fr=(s.take i).take fr:=by rw[List.take_take,Nat.min_eq_left h1]
  rw[e,List.append_nil,<-List.append_assoc,List.take_append_drop]
 ·rcases List.mem_append.1 hx with hx|hx
  ·exact h4 x hx
  ·rw [List.mem_singleton.1 hx];exact h6
 ·rcases List.mem_append.1 hx with hx|hx
  ·exact h5 x hx
  ·rw [List.mem_singleton.1 hx];simp;omega
 ·rw [List.drop_eq_nil_of_le (by simp;omega)] at hy;cases hy
theorem said_end (d:Ans):∃t,said d=t++[10]:=⟨_,lns_jl (by simp[rowsT])⟩
theorem ScA.rows {fr:Nat}(h:ScA s s.length fr l)(hf:fr=s.length){d:Ans}(hv:hasT d=true)(hd:said d=s):l=rowsT d:=by
 obtain ⟨_,h3,h4,_,_⟩:=h;rw[hf,List.take_length] at h3;have hl:l≠[]:=by
  rintro rfl;obtain ⟨t,ht⟩:=said_end d;rw[hd,h3] at ht;exact absurd (congrArg List.length ht) (by simp[lns])
 have e1:=rowsOf_lns hl h4;rw[<-h3,<-hd,rowsOf_said hv] at e1;exact e1.symm
theorem ScA.bad {fr:Nat}(h:ScA s s.length fr l)(hb:l.length=0∨fr≠s.length){d:Ans}(hv:hasT d=true):said d≠s:=by
 intro hd;obtain ⟨t,ht⟩:=said_end d
 by_cases hf:fr=s.length
 ·have:=h.rows hf hv hd
  rcases hb with q|q
  ·rw [List.eq_nil_of_length_eq_zero q] at this;cases this
  ·exact q hf
 ·obtain ⟨⟨h1,_,_⟩,_,_,_,h6⟩:=h
  rw[List.take_length] at h6;refine h6 10 ?_ rfl;rw[<-hd,ht] at h1 hf ⊢;rw[List.length_append,List.length_singleton] at h1 hf;rw[List.drop_append_of_le_length (by omega)]
  simp
theorem RdA.rstart {fr:Nat}(h:ScA s s.length fr l)(hf:fr=s.length)(h0:l[0]? =some x)(ho:isOp o=true)(hw:word o=(ct (ct x).2).1):RdA s l o 0 (sta o (numR (ct (ct x).2).2) (ct x).1):=by
 refine RdA.sta0 (w2:=(ct (ct x).2).2) ho hw (numR_in _) (λq hq (e:(ct (ct x).2).2=itoa q)=>by rw[e,numR_itoa hq]) λd hv hd=>?_
 have h1:=h.rows hf hv hd;have h2:x=Vc.jn (first d):=by
  rw[h1] at h0;exact (Option.some.inj h0).symm
 rw[first_eq] at h2;have h3:ct x=(if d.err=0 then okW else errW,word d.op++32::itoa (sayN d)):=by rw[h2,ct_at (λy hy=>(headW_plain d y hy).1)]
 have h4:ct (ct x).2=(word d.op,itoa (sayN d)):=by rw[h3];exact ct_at (λy hy=>(word_plain (hasT_iff.1 hv).1.1 y hy).1)
 rw[h4,h3];exact ⟨h1,rfl,rfl,rfl⟩
theorem ARGot.of (h:RdA s l o k a)(hk:l.length=k+1){b:Bool}(hb:b=true↔hasT a=true∧said a=s):ARGot s a b:=
 ⟨λq=>⟨(hb.1 q).1,h.ina,(hb.1 q).2⟩,λq d hv hI hd=>by
  have e:=h.end hk hv hI hd;subst e;have:=hb.2 ⟨hv,hd⟩;rw[q] at this;cases this⟩
theorem ARGot.bad {fr:Nat}(h:ScA s s.length fr l)(hb:l.length=0∨fr≠s.length)(a:Ans):ARGot s a false:=⟨λq=>(by cases q),λ_ _ hv _=>h.bad hb hv⟩
theorem ARGot.stop {fr:Nat}(h:ScA s s.length fr l)(hf:fr=s.length)(h0:l[0]? =some x)(hn:∀o,isOp o=true->word o≠(ct (ct x).2).1)(a:Ans):ARGot s a false:=
 ⟨λq=>(by cases q),λ_ d hv _ hd=>by
  have h1:=h.rows hf hv hd;have h2:x=Vc.jn (first d):=by
   rw[h1] at h0;exact (Option.some.inj h0).symm
  rw[first_eq] at h2;have ho:=(hasT_iff.1 hv).1.1;have h3:ct x=(if d.err=0 then okW else errW,word d.op++32::itoa (sayN d)):=by rw[h2,ct_at (λy hy=>(headW_plain d y hy).1)]
  have h4:ct (ct x).2=(word d.op,itoa (sayN d)):=by rw[h3];exact ct_at (λy hy=>(word_plain ho y hy).1)
  exact hn d.op ho (by rw[h4])⟩
end
end Go.Pn.Cl
end
section
namespace Go.Pn.Cl
open Go Go.Pn Go.Lib
def lineBad (x:Line):Bool:=decide (x.2<0)|| !between 32 x.1
def lenBad (n:Nat):Bool:=decide ((n:Int)<1)||decide ((n:Int)>65536)
theorem lineBad_eq (x:Line):lineBad x= !lineOk x:=by
 unfold lineBad lineOk;rw[Bool.not_and]
 congr 1
 by_cases h:x.2<0
 ·rw [decide_eq_true h,dF (by omega)];rfl
 ·rw [decide_eq_false h,dT (by omega)];rfl
theorem lenBad_eq (b:Str):lenBad b.length= !batOk b:=by
 unfold lenBad batOk
 by_cases h:1<=b.length∧b.length<=65536
 ·rw [decide_eq_true h,dF (by omega),dF (by omega)];rfl
 ·rw [decide_eq_false h]
  by_cases h2:(b.length:Int)<1
  ·rw [decide_eq_true h2];rfl
  ·rw [decide_eq_false h2,dT (by omega)];rfl
theorem any_not {α:Type}{p q:α->Bool}{l:List α}(h:∀x,p x= !q x):l.any p= !l.all q:=by
 induction l with
 |nil=>rfl
 |cons a l ih=>rw[List.any_cons,List.all_cons,ih,h,Bool.not_and]
theorem hd_no {a:Ans}(h:Hd a->False):false=hasT a:=by
 unfold hasT;rw[decide_eq_false h]
 rfl
theorem bad_no {a:Ans}(h:(a.lines.any lineBad||a.bats.any (λb=>lenBad b.length))=true):false=hasT a:=by
 rw[any_not lineBad_eq,any_not lenBad_eq,<-Bool.not_and,Bool.not_eq_true'] at h;unfold hasT;rw[h,Bool.and_false]
 rfl
theorem fin_eq {a:Ans}(h0:Hd a)(h:¬(a.lines.any lineBad||a.bats.any (λb=>lenBad b.length))=true){b:Bool}(hb:b=true↔Fin a):b=hasT a:=by
 rw[any_not lineBad_eq,any_not lenBad_eq,<-Bool.not_and,Bool.not_eq_true',Bool.not_eq_false] at h;unfold hasT;rw[h,decide_eq_true h0,Bool.and_true,Bool.true_and];cases b with
 |true=>exact (dT (hb.1 rfl)).symm
 |false=>exact (dF (λq=>by have:=hb.2 q;cases this)).symm
theorem wrap_small {x:Int}(h0:0<=x)(h1:x<=9223372036854775807+4096):IntKind.i64.wrap x=x∨(IntKind.i64.wrap x=x-18446744073709551616∧9223372036854775807<x):=by
 simp only[IntKind.wrap,IntKind.bits,IntKind.signed,Bool.true_and,Nat.reduceSub,Int.reducePow]
 split<;>rename_i h<;>first|(have h2:=of_decide_eq_true h;omega)|(have h2:=of_decide_eq_false (Bool.eq_false_iff.2 h);omega)
theorem sum_zero {c:Int}{n m:Nat}(h0:0<=c)(h1:c<=9223372036854775807)(hn:n<=1024)(hm:m<=1024):IntKind.i64.wrap (IntKind.i64.wrap (c+(n:Int))+(m:Int))=0↔c=0∧n=0∧m=0:=by
 rcases wrap_small (x:=c+(n:Int)) (by omega) (by omega) with e|⟨e,e2⟩
 ·rw [e]
  have:=wrap_small (x:=c+(n:Int)+(m:Int)) (by omega) (by omega)
  omega
 ·rw [e]
  simp only[IntKind.wrap,IntKind.bits,IntKind.signed,Bool.true_and,Nat.reduceSub,Int.reducePow]
  split<;>rename_i h<;>first|(have h2:=of_decide_eq_true h;omega)|(have h2:=of_decide_eq_false (Bool.eq_false_iff.2 h);omega)
theorem nil_iff {α:Type}{l:List α}:l=[]↔l.length=0:=List.length_eq_zero_iff.symm
theorem hd_iff {a:Ans}:Hd a↔isOp a.op=true∧(0<=a.err∧a.err<=99∧0<=a.count)∧(a.op=4∨a.lines.length=0)∧(a.op=10∨a.bats.length=0)∧a.lines.length<=1024∧a.bats.length<=1024:=by
 unfold Hd;rw[nil_iff,nil_iff]
theorem fin_iff {a:Ans}:Fin a↔a.err=0∨(a.count=0∧a.lines.length=0∧a.bats.length=0):=by
 unfold Fin;rw[nil_iff,nil_iff]
theorem nn {b:Bool}(h:(!b)=false):b=true:=by cases b with
 |true=>rfl
 |false=>cases h
theorem nt {b:Bool}(h:(!b)=true):b=false:=by cases b with
 |true=>cases h
 |false=>rfl
theorem nd {p:Prop}[Decidable p](h:(!decide p)=true):¬p:=of_decide_eq_false (nt h)
theorem dn {p:Prop}[Decidable p](h:(!decide p)=false):p:=of_decide_eq_true (nn h)
theorem or_f {a b:Bool}(h1:a=false)(h2:b=false):¬(a||b)=true:=by rw[h1,h2];decide
theorem or_l {a b:Bool}(h1:a=true):(a||b)=true:=by rw[h1];rfl
theorem or_r {a b:Bool}(h1:b=true):(a||b)=true:=by rw[h1,Bool.or_true]
end Go.Pn.Cl
end
section
namespace Go.Pn
def slF:Flat Raw:=⟨1,λr=>[slv r],λ_=>rfl,by simp[Value.oneCell',slv],by decide⟩
def SlsL {α:Type}(E:Enc α)(w:World)(F:Nat->Prop)(ro:List Raw)(xs:List (List α)):Prop:=ro.length=xs.length∧∀i,∀h:i<ro.length,∀h':i<xs.length,Sl E w F (slv ro[i]) xs[i]
section
variable {α:Type}{E:Enc α}{w w':World}{F F' M:Nat->Prop}{ro:List Raw}{xs:List (List α)}{v:Value}
theorem SlsL.nil:SlsL E w F [] []:=⟨rfl,λi h=>by simp at h⟩
theorem SlsL.kM (h:SlsL E w F ro xs)(e:Ext M w w')(hM:∀k,F k->¬M k):SlsL E w' F ro xs:=⟨h.1,λi h1 h2=>(h.2 i h1 h2).kM e hM⟩
theorem SlsL.keepA (h:SlsL E w F ro xs)(e:Ext M w w')(hM:∀k,F k->¬M k:=by intro k hk h;first|(have q:=hF k hk;(try dsimp only at h);omega)|(have q:=hF2 k hk;(try dsimp only at h);omega)|(have q:=hFb k hk;(try dsimp only at h);omega)|((try dsimp only at hk);(try dsimp only at h);omega)):SlsL E w' F ro xs:=SlsL.kM h e hM
theorem SlsL.L (h:SlsL E w F ro xs)(e:Le w w'):SlsL E w' F ro xs:=h.kM e λ_ _=>not_false
theorem SlsL.weak (h:SlsL E w F ro xs)(hF:∀k,F k->F' k):SlsL E w F' ro xs:=⟨h.1,λi h1 h2=>(h.2 i h1 h2).weak hF⟩
theorem SlsL.weakA (h:SlsL E w F ro xs)(hF:∀k,F k->F' k:=by intro q hq;(try dsimp only at hq);(try dsimp only);omega):SlsL E w F' ro xs:=SlsL.weak h hF
theorem SlsL.snoc {a:Raw}{x:List α}(h:SlsL E w F ro xs)(hm:Sl E w F (slv a) x):SlsL E w F (ro++[a]) (xs++[x]):=by
 refine ⟨by simp[h.1],λi h1 h2=>?_⟩;have hl:=h.1;simp only[List.length_append,List.length_cons,List.length_nil] at h1
 by_cases hi:i<ro.length
 ·rw [List.getElem_append_left hi,List.getElem_append_left (by omega)]
  exact h.2 i hi (by omega)
 ·have e1:i=ro.length:=by omega
  subst e1;rw[List.getElem_append_right (by omega),List.getElem_append_right (by omega)];simp only[Nat.sub_self,hl,List.getElem_cons_zero];exact hm
theorem Sl.raws1 (h:Sl (sliE E) w F v xs):∃ro,Sl slF.enc w F v ro∧SlsL E w F ro xs:=by
 obtain ⟨rs,h1,h2,h3⟩:=Sl.raws (G:=slF) (R:=λr x=>Sl E w F (Go.Pn.slv r) x) rfl (λcs x hr=>by
  obtain ⟨u,rfl,hu⟩:=hr;obtain ⟨a,rfl⟩:=hu.slv;exact ⟨a,rfl,hu⟩) h
 exact ⟨rs,h1,h2,h3⟩
end
end Go.Pn
end
section
namespace Go.Pn
open Go.RowKit
def lineF:Flat (List UInt8×Int):=⟨2,λx=>[str x.1,.int .i64 x.2],λ_=>rfl,by simp[Value.oneCell',str],by decide⟩
section
variable {P:Program}{n:Nat}{ops rest:List Oper}{N:Val->World->Prop}{Z:List PanicEntry->World->Prop}{f:Val}{w:World}
 {d:Nat}{x y:Operand}{t t' tr:TypeId}{pos:String}{after:Array Edge}
theorem run_eq_line {f0 f1:Field} (ht:P.underlying t=some (.struct #[f0,f1])) (n0:f0.name≠ "_") (n1:f1.name≠ "_") (o0:f0.offset=0) (o1:f1.offset=1) (u0:P.underlying f0.type=some .string) (u1:P.underlying f1.type=some (.int .i64))
 (a0:∀w,(isAgg f0.type).run P w=.ok false w) (a1:∀w,(isAgg f1.type).run P w=.ok false w) (hp:P.stoodInHeld t=false) (a b:List UInt8×Int):
 (Op.equalIn 10000 t (.agg #[str a.1,.int .i64 a.2]) (.agg #[str b.1,.int .i64 b.2])).run P w=.ok (decide (a=b)) w:=by
 have hf:P.fieldsOf t=#[f0,f1]:=by unfold Program.fieldsOf;rw[ht]
 rw[run_equalIn_struct w 9999 t _ _ (by rw[hf];exact ht) hp,hf];have e0:∀w,(Op.equalIn 9999 f0.type (str a.1) (str b.1)).run P w=.ok (decide (a.1=b.1)) w:=λw=>by
  have h:=run_equalIn_string (P:=P) w 9998 f0.type ⟨a.1.toArray⟩ ⟨b.1.toArray⟩ u0;rw[ByteArray.toList_eq,ByteArray.toList_eq] at h;refine h.trans ?_
  congr 1
  show (a.1==b.1)=_
  by_cases q:a.1=b.1<;>simp[q]
 have e1:∀w,(Op.equalIn 9999 f1.type (.int .i64 a.2) (.int .i64 b.2)).run P w=.ok (a.2==b.2) w:=λw=>run_equalIn_int w 9998 f1.type .i64 .i64 a.2 b.2 u1
 simp only[Op.eqFields,n0,n1,ne_eq,not_false_eq_true,if_true,Sem.run_bind,part,a0,Result.andThen_ok,Bool.false_eq_true,if_false,o0,o1];simp only[show (#[str a.1,Value.int .i64 a.2])[0]? =some (str a.1) from rfl,show (#[str a.1,Value.int .i64 a.2])[1]? =some (Value.int .i64 a.2) from rfl,
  show (#[str b.1,Value.int .i64 b.2])[0]? =some (str b.1) from rfl,show (#[str b.1,Value.int .i64 b.2])[1]? =some (Value.int .i64 b.2) from rfl,Sem.run_pure,Result.andThen_ok,e0,Sem.run_ite]
 by_cases h1:a.1=b.1
 ·by_cases h2:a.2=b.2
  ·obtain rfl:a=b:=Prod.ext h1 h2
   simp[e1,a1]
  ·have h:¬a=b:=λh=>h2 (by rw[h])
   have h3:(a.2==b.2)=false:=by simpa using h2
   simp[e1,h,a1,h3,h1]
 ·have h:¬a=b:=λh=>h1 (by rw[h])
  simp[h1,h]
theorem O.neqLn {f0 f1:Field} {a b:List UInt8×Int} (ht:P.underlying t=some (.struct #[f0,f1])) (n0:f0.name≠ "_") (n1:f1.name≠ "_") (o0:f0.offset=0) (o1:f1.offset=1) (u0:P.underlying f0.type=some .string) (u1:P.underlying f1.type=some (.int .i64))
 (a0:∀w,(isAgg f0.type).run P w=.ok false w) (a1:∀w,(isAgg f1.type).run P w=.ok false w) (hp:P.stoodInHeld t=false) (hm:P.eqGuardType P.depth t=false)
 (hx:ev n f x=.agg #[str a.1,.int .i64 a.2]) (hy:ev n f y=.agg #[str b.1,.int .i64 b.2]) (h:O P n ops rest N Z (upd f d (.bool (decide (a≠b)))) w):
 O P n ops (ZO d (.binOp .neq t x y t') tr pos after::rest) N Z f w:=
 O.val rfl rfl (run_bin hx hy (run_eqGuard_agg w _ _ _ _ _ _ hm) (by rw[run_neq_struct,run_eq_line ht n0 n1 o0 o1 u0 u1 a0 a1 hp];simp[Result.andThen]) _ _) h
end
theorem Sl.slen {α:Type}{E:Enc α}{w:World}{F:Nat->Prop}{r:Raw}{xs:List α}(h:Sl E w F (Go.Pn.slv r) xs):r.2.1=xs.length:=by
 obtain ⟨l,cap,e,_⟩:=h.val;simp only[Go.Pn.slv,Value.slice.injEq] at e;exact e.2.1
theorem SlsL.len {α:Type}{E:Enc α}{w:World}{F:Nat->Prop}{ro:List Raw}{xs:List (List α)}(h:SlsL E w F ro xs){k:Nat}(hk:k<ro.length):ro[k].2.1=(xs[k]'(by have:=h.1;omega)).length:=(h.2 k hk (by have:=h.1;omega)).slen
theorem SlsL.lens {α:Type}{E:Enc α}{w:World}{F:Nat->Prop}{ro:List Raw}{xs:List (List α)}(h:SlsL E w F ro xs):ro.map (·.2.1)=xs.map List.length:=by
 apply List.ext_getElem (by simp[h.1])
 intro i h1 h2;simp only[List.getElem_map];exact h.len (by simpa using h1)
theorem SlsL.any {α:Type}{E:Enc α}{w:World}{F:Nat->Prop}{ro:List Raw}{xs:List (List α)}(h:SlsL E w F ro xs)(p:Nat->Bool):ro.any (λr=>p r.2.1)=xs.any (λx=>p x.length):=by
 have h1:=congrArg (λl=>l.any p) h.lens
 simpa[List.any_map,Function.comp_def] using h1
end Go.Pn
end
section
namespace Go.Pn.Cl
open Go Go.Pn Go.Lib
def rowsK (a:Ans)(k j:Nat):List Str:=Vc.jn (first a)::((a.lines.take k).map lineT++(a.bats.take j).map hex)
theorem rowsK_all {a:Ans}{k j:Nat}(hk:a.lines.length<=k)(hj:a.bats.length<=j):lns (rowsK a k j)=said a:=by
 unfold rowsK said rowsT;rw[List.take_of_length_le hk,List.take_of_length_le hj]
theorem lns_snoc (l:List Str)(x:Str):lns (l++[x])=lns l++(x++[10]):=by
 unfold lns;rw[List.flatMap_append]
 simp
theorem rowsK_line {a:Ans}{k:Nat}(hk:k<a.lines.length){x:Line}(hx:x=a.lines[k]):lns (rowsK a k 0)++(Vc.jn [itoa x.2,x.1]++[10])=lns (rowsK a (k+1) 0):=by
 have e:rowsK a (k+1) 0=rowsK a k 0++[lineT x]:=by
  unfold rowsK;rw[List.take_succ_eq_append_getElem hk,<-hx]
  simp
 rw[e,lns_snoc]
 rfl
theorem rowsK_bat {a:Ans}{k j:Nat}(hj:j<a.bats.length){x:Str}(hx:x=a.bats[j]):lns (rowsK a k j)++(Vc.jn [hex x]++[10])=lns (rowsK a k (j+1)):=by
 have e:rowsK a k (j+1)=rowsK a k j++[hex x]:=by
  unfold rowsK;rw[List.take_succ_eq_append_getElem hj,<-hx]
  simp
 rw[e,lns_snoc,jn_one]
theorem rowsK_0 (a:Ans):lns (rowsK a 0 0)=Vc.jn (first a)++[10]:=by
 unfold rowsK lns
 simp
theorem lns_le {l:List Str}{r:Nat}(h:∀x∈l,x.length<=r):(lns l).length<=l.length*(r+1):=by
 induction l with
 |nil=>simp[lns]
 |cons x l ih=>
  have h1:=h x (by simp);have h2:=ih λy hy=>h y (by simp[hy])
  show ((x++[10])++lns l).length<=_;simp only[List.length_append,List.length_cons,List.length_nil,Nat.add_mul]
  omega
theorem first_le {a:Ans}(ho:isOp a.op=true)(hA:InA a):(Vc.jn (first a)).length<=100:=by
 have h1:=itoa_le (sayN_in hA);have h2:=word_len ho;have h3:(if a.err=0 then okW else errW).length<=5:=by split<;>decide
 rw[first_eq,List.length_append,List.length_cons,List.length_append,List.length_cons]
 omega
theorem lineT_le {x:Line}(h:lineOk x=true)(hi:InI64 x.2):(lineT x).length<=200:=by
 unfold lineOk at h;rw[Bool.and_eq_true] at h;have h1:=itoa_le hi;have h2:=(between_iff.1 h.2).2;rw[lineT_eq,List.length_append,List.length_cons]
 omega
theorem bat_le {b:Str}(h:batOk b=true):(hex b).length<=131072:=by
 have:=of_decide_eq_true h;rw[hex_len];omega
theorem rowsT_le {a:Ans}(h:hasT a=true)(hA:InA a):∀x∈rowsT a,x.length<=131072:=by
 obtain ⟨h1,h2,h3,h4⟩:=hasT_iff.1 h;intro x hx;rcases List.mem_cons.1 hx with rfl|hx
 ·have:=first_le h1.1 hA;omega
 ·rcases List.mem_append.1 hx with hx|hx
  ·obtain ⟨l,hl,rfl⟩:=List.mem_map.1 hx
   have:=lineT_le (h2 l hl) (hA.2.2 l hl);omega
  ·obtain ⟨l,hl,rfl⟩:=List.mem_map.1 hx
   exact bat_le (h3 l hl)
theorem rowsK_mem {a:Ans}{k j:Nat}:∀x∈rowsK a k j,x∈rowsT a:=by
 intro x hx;rcases List.mem_cons.1 hx with rfl|hx
 ·exact .head _
 ·refine .tail _ ?_
  rcases List.mem_append.1 hx with hx|hx
  ·obtain ⟨l,hl,rfl⟩:=List.mem_map.1 hx
   exact List.mem_append.2 (.inl (List.mem_map.2 ⟨l,List.mem_of_mem_take hl,rfl⟩))
  ·obtain ⟨l,hl,rfl⟩:=List.mem_map.1 hx
   exact List.mem_append.2 (.inr (List.mem_map.2 ⟨l,List.mem_of_mem_take hl,rfl⟩))
theorem rowsK_le {a:Ans}(h:hasT a=true)(hA:InA a)(k j:Nat):(lns (rowsK a k j)).length<=300000000:=by
 have h1:=lns_le (l:=rowsK a k j) (r:=131072) λx hx=>rowsT_le h hA x (rowsK_mem x hx)
 obtain ⟨h2,_⟩:=hasT_iff.1 h;have h3:(rowsK a k j).length<=2049:=by
  unfold rowsK;rw[List.length_cons,List.length_append,List.length_map,List.length_map,List.length_take,List.length_take];have:=h2.2.2.2.2
  omega
 have:=Nat.mul_le_mul_right (131072+1) h3
 omega
theorem said_le {a:Ans}(h:hasT a=true)(hA:InA a):(said a).length<=300000000:=by
 rw[<-rowsK_all (Nat.le_refl _) (Nat.le_refl _)];exact rowsK_le h hA _ _
theorem said_err {a:Ans}(h:hasT a=true)(he:a.err≠0):said a=Vc.jn [errW,word a.op,itoa a.err]++[10]:=by
 obtain ⟨_,_,_,h4⟩:=hasT_iff.1 h;obtain ⟨h5,h6,h7⟩:=h4.resolve_left he;unfold said rowsT first sayN
 rw[if_neg he,if_neg he,h6,h7]
 simp[lns]
theorem first_ok {a:Ans}(he:a.err=0):Vc.jn [okW,word a.op,itoa a.count]++[10]=lns (rowsK a 0 0):=by
 rw[rowsK_0];unfold first sayN
 rw[if_pos he,if_pos he]
end Go.Pn.Cl
end
section
namespace Go.Pn.Cl
open Go Go.Pn Go.Lib
theorem rows_len (s:Str):(1<=(rowsOf s).length∧(rowsOf s).length<=s.length+1)∧∀x∈rowsOf s,x.length<=s.length:=by
 have h1:=sp_len 10 (trimSuffix s [10]);have h2:=trim_len s;have h3:=List.length_pos_iff.2 (sp_ne 10 (trimSuffix s [10]));unfold rowsOf;exact ⟨⟨h3,by omega⟩,λx hx=>Nat.le_trans (h1.2 x hx) h2⟩
theorem tail_get (l:List Str)(k:Nat):((l.take l.length).drop 1)[k]? =l[k+1]? :=by
 rw[List.take_length,List.getElem?_drop,Nat.add_comm]
theorem tail_len (l:List Str):((l.take l.length).drop 1).length=l.length-1:=by simp
theorem tail_some {l:List Str}{k:Nat}{x:Str}(hk:k<((l.take l.length).drop 1).length)(hx:x=((l.take l.length).drop 1)[k]):l[k+1]? =some x:=by
 rw[<-tail_get,hx,List.getElem?_eq_getElem hk]
theorem some_at {α:Type}{l:List α}{k:Nat}{x:α}(hk:k<l.length)(hx:x=l[k]):l[k]? =some x:=by rw[hx,List.getElem?_eq_getElem hk]
end Go.Pn.Cl
end
section
namespace Go.Pn.Cl
open Go Go.Pn Go.Lib
def sameA (a b:Ans):Bool:=decide (a.op=b.op∧a.err=b.err∧a.count=b.count∧a.lines=b.lines∧a.bats=b.bats)
theorem sameA_iff {a b:Ans}:sameA a b=true↔a=b:=by
 unfold sameA;rw[decide_eq_true_eq];exact ⟨λ⟨h1,h2,h3,h4,h5⟩=>Ans.ext' h1 h2 h3 h4 h5,λh=>by subst h;exact ⟨rfl,rfl,rfl,rfl,rfl⟩⟩
theorem sameA_no {a b:Ans}(h:a=b->False):false=sameA a b:=by
 symm
 rw[Bool.eq_false_iff];exact λq=>h (sameA_iff.1 q)
theorem sameA_yes {a b:Ans}(h:a=b):true=sameA a b:=(sameA_iff.2 h).symm
def sameC (a b:Call):Bool:=decide (a.op=b.op∧a.key=b.key∧a.other=b.other∧a.item=b.item∧a.qty=b.qty∧a.data=b.data)
theorem sameC_iff {a b:Call}:sameC a b=true↔a=b:=by
 unfold sameC;rw[decide_eq_true_eq];exact ⟨λ⟨h1,h2,h3,h4,h5,h6⟩=>Call.ext' h1 h2 h3 h4 h5 h6,λh=>by subst h;exact ⟨rfl,rfl,rfl,rfl,rfl,rfl⟩⟩
theorem sameC_no {a b:Call}(h:a=b->False):false=sameC a b:=by
 symm
 rw[Bool.eq_false_iff];exact λq=>h (sameC_iff.1 q)
theorem u8_bv {a b:UInt8}(h:¬a.toBitVec≠b.toBitVec):a=b:=UInt8.eq_of_toBitVec_eq (Decidable.of_not_not h)
theorem take_all {α:Type}{a b:List α}{k:Nat}(h:a.take k=b.take k)(ha:a.length<=k)(hb:b.length<=k):a=b:=by
 rwa [List.take_of_length_le ha,List.take_of_length_le hb] at h
theorem take_next {α:Type}{a b:List α}{k:Nat}(h:a.take k=b.take k)(ha:k<a.length)(hb:k<b.length)(e:a[k]=b[k]):a.take (k+1)=b.take (k+1):=by
 rw[List.take_succ_eq_append_getElem ha,List.take_succ_eq_append_getElem hb,h,e]
end Go.Pn.Cl
end
section
namespace Go.Pn.Cl
open Go Go.Pn Go.Lib
theorem op_word {o:Int}(h:¬word o=[]):isOp o=true:=by
 cases q:isOp o with
 |true=>rfl
 |false=>exact absurd (word_no q) h
theorem op_no {o:Int}(h:word o=[]):¬isOp o=true:=λq=>by
 have:=word_len q;rw[h] at this;exact absurd this.1 (by decide)
theorem lines_no {a:Ans}{x:Line}(hx:x∈a.lines)(h:lineOk x=true->False):false=hasT a:=by
 symm;rw[Bool.eq_false_iff]
 exact λq=>h ((hasT_iff.1 q).2.1 x hx)
theorem bats_no {a:Ans}{x:Str}(hx:x∈a.bats)(h:batOk x=true->False):false=hasT a:=by
 symm;rw[Bool.eq_false_iff]
 exact λq=>h ((hasT_iff.1 q).2.2.1 x hx)
theorem lineOk_of {x:Line}(h1:between 32 x.1=true)(h2:¬x.2<0):lineOk x=true:=by
 unfold lineOk;rw[h1,dT (by omega)];rfl
theorem lineOk_btw {x:Line}(h:lineOk x=true):between 32 x.1=true∧0<=x.2:=by
 unfold lineOk at h;rw[Bool.and_eq_true] at h;exact ⟨h.2,of_decide_eq_true h.1⟩
theorem batOk_of {b:Str}(h:1<=b.length∧b.length<=65536):batOk b=true:=decide_eq_true h
theorem all_next {α:Type}{p:α->Bool}{l:List α}{k:Nat}(h:∀x∈l.take k,p x=true)(hk:k<l.length){x:α}(hx:x=l[k])(hp:p x=true):∀y∈l.take (k+1),p y=true:=by
 intro y hy;rw[List.take_succ_eq_append_getElem hk,<-hx] at hy;rcases List.mem_append.1 hy with hy|hy
 ·exact h y hy
 ·rw [List.mem_singleton.1 hy];exact hp
theorem hasT_of {a:Ans}{k j:Nat}(h:Hd a)(h1:∀x∈a.lines.take k,lineOk x=true)(hk:a.lines.length<=k)(h2:∀x∈a.bats.take j,batOk x=true)(hj:a.bats.length<=j){b:Bool}(hb:b=true↔Fin a):b=hasT a:=by
 rw[List.take_of_length_le hk] at h1;rw[List.take_of_length_le hj] at h2;cases b with
 |true=>exact (hasT_iff.2 ⟨h,h1,h2,hb.1 rfl⟩).symm
 |false=>
  symm;rw[Bool.eq_false_iff]
  intro q;have:=hb.2 (hasT_iff.1 q).2.2.2;cases this
theorem fin_same {a:Ans}(h:¬a.err=0):sameA a ⟨a.op,a.err,0,[],[]⟩=true↔Fin a:=by
 unfold sameA Fin;rw[decide_eq_true_eq];exact ⟨λ⟨_,_,h3,h4,h5⟩=>.inr ⟨h3,h4,h5⟩,λq=>by
  rcases q with q|⟨h3,h4,h5⟩
  ·exact absurd q h
  ·exact ⟨rfl,rfl,h3,h4,h5⟩⟩
theorem said_first {a:Ans}(he:a.err=0):((([111,107,32]++word a.op)++[32])++itoa a.count)++[10]=lns (rowsK a 0 0):=by
 rw[rowsK_0,first_eq];unfold sayN;rw[if_pos he,if_pos he]
 simp[okW]
theorem said_wrong {a:Ans}(h:hasT a=true)(he:a.err≠0):((([101,114,114,111,114,32]++word a.op)++[32])++itoa a.err)++[10]=said a:=by
 rw[said_err h he,jn_two,jn_two,jn_one]
 simp[errW]
theorem said_line {a:Ans}{k:Nat}(hk:k<a.lines.length){x:Line}(hx:x=a.lines[k]):(((lns (rowsK a k 0)++itoa x.2)++[32])++x.1)++[10]=lns (rowsK a (k+1) 0):=by
 rw[<-rowsK_line hk hx,jn_two,jn_one]
 simp
theorem said_bat {a:Ans}{k j:Nat}(hj:j<a.bats.length){x:Str}(hx:x=a.bats[j]):(lns (rowsK a k j)++hex x)++[10]=lns (rowsK a k (j+1)):=by
 rw[<-rowsK_bat hj hx,jn_one]
 simp
theorem short0:ShortA zeroA:=⟨Nat.zero_le _,Nat.zero_le _,(λ_ h=>(by cases h)),λ_ h=>(by cases h)⟩
theorem get_10 {s:Str}{i:Nat}(hi:i<s.length)(h:(s.getD ((i:Int)).toNat 0).toBitVec=10#8):s[i]=10:=by
 rw[getD_at hi] at h;exact UInt8.eq_of_toBitVec_eq h
theorem get_10r {s:Str}{i:Nat}(hi:i<s.length)(h:s[i]=10):(s.getD ((i:Int)).toNat 0).toBitVec=10#8:=by
 rw[getD_at hi,h];rfl
def Brief (a:Ans):Prop:=a.lines.length<=30∧a.bats.length<=30∧(∀x∈a.lines,x.1.length<=120)∧∀x∈a.bats,x.length<=100
theorem Brief.of {a:Ans}{k j:Nat}(h1:∀x∈a.lines.take k,decide (x.1.length<=120)=true)(hk:a.lines.length<=k)(h2:∀x∈a.bats.take j,decide (x.length<=100)=true)(hj:a.bats.length<=j)(h3:a.lines.length<=30)(h4:a.bats.length<=30):Brief a:=by
 rw[List.take_of_length_le hk] at h1;rw[List.take_of_length_le hj] at h2;exact ⟨h3,h4,λx hx=>of_decide_eq_true (h1 x hx),λx hx=>of_decide_eq_true (h2 x hx)⟩
end Go.Pn.Cl
end
section
namespace Go.Pn.Cl
open Go Go.Pn Go.Lib
theorem dig_inj:∀n,n<16->∀m,m<16->dig n=dig m->n=m:=by decide+kernel
theorem hex_inj:∀{a b:Str},hex a=hex b->a=b
 |[],[],_=>rfl
 |[],b::l,h=>by have:=congrArg List.length h;rw[hex_len,hex_len] at this;simp at this
 |a::l,[],h=>by have:=congrArg List.length h;rw[hex_len,hex_len] at this;simp at this
 |a::l,b::m,h=>by
  rw[hex_cons,hex_cons] at h;injection h with h1 h2;injection h2 with h3 h4;have ha:=a.toNat_lt;have hb:=b.toNat_lt;have e1:=dig_inj _ (by omega) _ (by omega) h1;have e2:=dig_inj _ (by omega) _ (by omega) h3;have e:a=b:=UInt8.toNat_inj.1 (by omega);rw[e,hex_inj h4]
theorem itoa_inj {a b:Int}(ha:InI64 a)(hb:InI64 b)(h:itoa a=itoa b):a=b:=by
 have h1:=atoi_itoa ha;rw[h,atoi_itoa hb] at h1;injection h1 with e;exact e.symm
theorem data_inj {a b:Str}(h:(if a=[] then [45] else hex a)=(if b=[] then [45] else hex b)):a=b:=by
 by_cases ha:a=[]
 ·by_cases hb:b=[]
  ·rw [ha,hb]
  ·rw [if_pos ha,if_neg hb] at h
   cases b with
   |nil=>exact absurd rfl hb
   |cons x l=>exact absurd h.symm hex_ne
 ·by_cases hb:b=[]
  ·rw [if_neg ha,if_pos hb] at h
   cases a with
   |nil=>exact absurd rfl ha
   |cons x l=>exact absurd h hex_ne
  ·rw [if_neg ha,if_neg hb] at h
   exact hex_inj h
section
variable {c d:Call}
theorem rem_inj (hv:valid c=true)(hw:valid d=true)(ho:c.op=d.op):∀n k,(parts c.op).length-k=n->rem c ((parts c.op).drop k)=rem d ((parts c.op).drop k)->∀x∈(parts c.op).drop k,piece c x=piece d x
 |0,k,hn,_=>by
  rw[List.drop_eq_nil_of_le (by omega)];intro x hx;cases hx
 |n+1,k,hn,h=>by
  have hk:k<(parts c.op).length:=by omega
  rw[List.drop_eq_getElem_cons hk] at h ⊢;have hxm:(parts c.op)[k]∈parts c.op:=List.getElem_mem _
  by_cases h5:(parts c.op)[k]=105
  ·have hl:=last_nil hk rfl (.inl h5)
   rw[hl,rem_one,rem_one] at h;rw[hl];intro x hx;rw[List.mem_singleton.1 hx];exact h
  ·have e1:=ct_rem (ps:=(parts c.op).drop (k+1)) hv hxm h5
   have e2:=ct_rem (ps:=(parts c.op).drop (k+1)) hw (by rw[<-ho];exact hxm) h5;rw[h,e2] at e1;injection e1 with e3 e4;have ih:=rem_inj hv hw ho n (k+1) (by omega) e4.symm;intro x hx;rcases List.mem_cons.1 hx with rfl|hx
   ·exact e3.symm
   ·exact ih x hx
theorem cut_same (ho:c.op=d.op)(ps:Str)(h1:107∈ps->c.key=d.key)(h2:111∈ps->c.other=d.other)(h3:105∈ps->c.item=d.item)(h4:113∈ps->c.qty=d.qty)(h5:100∈ps->c.data=d.data):cut c ps=cut d ps:=by
 unfold cut;refine Call.ext' ho ?_ ?_ ?_ ?_ ?_<;>simp only<;>split<;>first|rfl|(rename_i h;first|exact h1 h|exact h2 h|exact h3 h|exact h4 h|exact h5 h)
theorem text_inj (hv:valid c=true)(hw:valid d=true)(hq:InI64 c.qty)(hr:InI64 d.qty)(h:text c=text d):c=d:=by
 have e1:=ct_text hv;rw[h,ct_text hw] at e1;injection e1 with e2 e3;have ho:=word_inj (valid_iff.1 hv).1 (valid_iff.1 hw).1 e2.symm;rw[<-ho] at e3;have hp:=rem_inj hv hw ho _ 0 rfl (by rw[List.drop_zero];exact e3.symm);rw[List.drop_zero] at hp;rw[<-cut_all hv,<-cut_all hw,<-ho];exact cut_same ho _ (λm=>hp _ m) (λm=>hp _ m) (λm=>hp _ m) (λm=>itoa_inj hq hr (hp _ m)) (λm=>data_inj (hp _ m))
theorem pieceB_inj (hq:InI64 c.qty)(hr:InI64 d.qty)(x:UInt8){r s:Str}(h:pieceB c x++r=pieceB d x++s):(pieceB c x=pieceB d x∧r=s)∧(x=107->c.key=d.key)∧(x=111->c.other=d.other)∧(x=105->c.item=d.item)∧(x=113->c.qty=d.qty)∧(x∈tags->x=100->c.data=d.data):=by
 unfold pieceB at h ⊢
 by_cases h1:x=107
 ·subst h1
  rw[if_pos rfl,if_pos rfl] at h ⊢;obtain ⟨e1,e2⟩:=Cn.pre_str _ _ _ _ trivial trivial h;exact ⟨⟨by rw[e1],e2⟩,λ_=>e1,λq=>absurd q (by decide),λq=>absurd q (by decide),λq=>absurd q (by decide),λ_ q=>absurd q (by decide)⟩
 ·rw [if_neg h1,if_neg h1] at h ⊢
  by_cases h2:x=111
  ·subst h2
   rw[if_pos rfl,if_pos rfl] at h ⊢;obtain ⟨e1,e2⟩:=Cn.pre_str _ _ _ _ trivial trivial h;exact ⟨⟨by rw[e1],e2⟩,λq=>absurd q h1,λ_=>e1,λq=>absurd q (by decide),λq=>absurd q (by decide),λ_ q=>absurd q (by decide)⟩
  ·rw [if_neg h2,if_neg h2] at h ⊢
   by_cases h3:x=113
   ·subst h3
    rw[if_pos rfl,if_pos rfl] at h ⊢;obtain ⟨e1,e2⟩:=Cn.num_pre _ _ _ _ h;have e3:c.qty=d.qty:=by
     unfold Cn.u at e1;unfold InI64 at hq hr;have e4:=congrArg BitVec.toInt (BitVec.eq_of_toNat_eq e1);rw[BitVec.toInt_ofInt,BitVec.toInt_ofInt,Int.bmod_def,Int.bmod_def] at e4
     omega
    exact ⟨⟨by rw[e1],e2⟩,λq=>absurd q h1,λq=>absurd q h2,λq=>absurd q (by decide),λ_=>e3,λ_ q=>absurd q (by decide)⟩
   ·rw [if_neg h3,if_neg h3] at h ⊢
    by_cases h4:x=105
    ·subst h4
     rw[if_pos rfl,if_pos rfl] at h ⊢;obtain ⟨e1,e2⟩:=Cn.pre_str _ _ _ _ trivial trivial h;exact ⟨⟨by rw[e1],e2⟩,λq=>absurd q h1,λq=>absurd q h2,λ_=>e1,λq=>absurd q h3,λ_ q=>absurd q (by decide)⟩
    ·rw [if_neg h4,if_neg h4] at h ⊢
     obtain ⟨e1,e2⟩:=Cn.pre_str _ _ _ _ trivial trivial h;exact ⟨⟨by rw[e1],e2⟩,λq=>absurd q h1,λq=>absurd q h2,λq=>absurd q h4,λq=>absurd q h3,λ_ _=>e1⟩
theorem flat_inj (hq:InI64 c.qty)(hr:InI64 d.qty):∀ps:Str,(∀x∈ps,x∈tags)->ps.flatMap (pieceB c)=ps.flatMap (pieceB d)->(107∈ps->c.key=d.key)∧(111∈ps->c.other=d.other)∧(105∈ps->c.item=d.item)∧(113∈ps->c.qty=d.qty)∧(100∈ps->c.data=d.data)
 |[],_,_=>⟨λh=>(by cases h),λh=>(by cases h),λh=>(by cases h),λh=>(by cases h),λh=>(by cases h)⟩
 |x::ps,ht,h=>by
  rw[List.flatMap_cons,List.flatMap_cons] at h;obtain ⟨⟨_,h2⟩,k1,k2,k3,k4,k5⟩:=pieceB_inj hq hr x h;obtain ⟨i1,i2,i3,i4,i5⟩:=flat_inj hq hr ps (λy hy=>ht y (.tail _ hy)) h2;exact ⟨λq=>by rcases List.mem_cons.1 q with q|q;exact k1 q.symm;exact i1 q,λq=>by rcases List.mem_cons.1 q with q|q;exact k2 q.symm;exact i2 q,λq=>by rcases List.mem_cons.1 q with q|q;exact k3 q.symm;exact i3 q,λq=>by rcases List.mem_cons.1 q with q|q;exact k4 q.symm;exact i4 q,λq=>by rcases List.mem_cons.1 q with q|q;exact k5 (ht x (.head _)) q.symm;exact i5 q⟩
theorem opB_eq {o o':Int}(h:isOp o=true)(h':isOp o'=true)(e:opB o=opB o'):o=o':=(opB_inj h e).trans (opB_inj h' rfl).symm
theorem bytes_inj (hv:valid c=true)(hw:valid d=true)(hq:InI64 c.qty)(hr:InI64 d.qty)(h:bytes c=bytes d):c=d:=by
 unfold bytes at h;injection h with h1 h2;have ho:=opB_eq (valid_iff.1 hv).1 (valid_iff.1 hw).1 h1;rw[<-ho] at h2;obtain ⟨i1,i2,i3,i4,i5⟩:=flat_inj hq hr _ (parts_tags (valid_iff.1 hv).1) h2;rw[<-cut_all hv,<-cut_all hw,<-ho];exact cut_same ho _ i1 i2 i3 i4 i5
end
section
variable {a b:Ans}
theorem lineT_inj {x y:Line}(hx:InI64 x.2)(hy:InI64 y.2)(h:lineT x=lineT y):x=y:=by
 have h1:=ct_at (a:=itoa x.2) (b:=x.1) itoa_sp;rw[<-lineT_eq,h,lineT_eq,ct_at itoa_sp] at h1;injection h1 with h2 h3;exact Prod.ext h3.symm (itoa_inj hy hx h2).symm
theorem map_inj {α β:Type}{f:α->β}:∀{l m:List α},(∀x∈l,∀y∈m,f x=f y->x=y)->l.map f=m.map f->l=m
 |[],[],_,_=>rfl
 |[],_::_,_,h=>by simp at h
 |_::_,[],_,h=>by simp at h
 |x::l,y::m,hf,h=>by
  rw[List.map_cons,List.map_cons] at h;injection h with h1 h2;rw[hf x (by simp) y (by simp) h1,map_inj (λu hu v hv=>hf u (by simp[hu]) v (by simp[hv])) h2]
theorem said_inj (hv:hasT a=true)(hw:hasT b=true)(hA:InA a)(hB:InA b)(h:said a=said b):a=b:=by
 have h1:=rowsOf_said hv;rw[h,rowsOf_said hw] at h1;unfold rowsT at h1;injection h1 with h2 h3;obtain ⟨⟨o1,o2,o3,o4,_⟩,_,_,f1⟩:=hasT_iff.1 hv;obtain ⟨⟨p1,p2,p3,p4,_⟩,_,_,f2⟩:=hasT_iff.1 hw;have e1:=heads_first o1;rw[<-h2,heads_first p1] at e1;have e2:=List.append_cancel_right e1;unfold first at e2
 injection e2 with e3 e4;injection e4 with e5 e6;injection e6 with e7 _;have ho:a.op=b.op:=(word_inj p1 o1 e5).symm;have hn:=(itoa_inj (sayN_in hB) (sayN_in hA) e7).symm;have hee:a.err=b.err∧a.count=b.count:=by
  unfold sayN at hn
  by_cases q:a.err=0
  ·by_cases r:b.err=0
   ·rw [if_pos q,if_pos r] at hn
    exact ⟨by omega,hn⟩
   ·rw [if_pos q,if_neg r] at e3
    exact absurd e3.symm ok_ne
  ·by_cases r:b.err=0
   ·rw [if_neg q,if_pos r] at e3
    exact absurd e3 ok_ne
   ·rw [if_neg q,if_neg r] at hn
    exact ⟨hn,by rw[(f1.resolve_left q).1,(f2.resolve_left r).1]⟩
 have hlb:a.lines=b.lines∧a.bats=b.bats:=by
  by_cases q:a.op=4
  ·have n1:a.bats=[]:=o4.resolve_left (by rw[q];decide)
   have n2:b.bats=[]:=p4.resolve_left (by rw[<-ho,q];decide);rw[n1,n2,List.map_nil,List.append_nil,List.append_nil] at h3;exact ⟨(map_inj (λx hx y hy e=>lineT_inj (hB.2.2 x hx) (hA.2.2 y hy) e) h3).symm,by rw[n1,n2]⟩
  ·have n1:a.lines=[]:=o3.resolve_left q
   have n2:b.lines=[]:=p3.resolve_left (by rw[<-ho];exact q);rw[n1,n2,List.map_nil,List.nil_append,List.nil_append] at h3;exact ⟨by rw[n1,n2],(map_inj (λx _ y _ e=>hex_inj e) h3).symm⟩
 exact Ans.ext' ho hee.1 hee.2 hlb.1 hlb.2
end
theorem Got.one {s:Str}{c d:Call}{e f:Int}(h:Got s c e)(k:Got s d f):c=d∧e=f:=by
 rcases h with ⟨h1,h2,h3,h4⟩|⟨h1,h2,h3⟩
 ·rcases k with ⟨k1,k2,k3,k4⟩|⟨_,_,k3⟩
  ·exact ⟨text_inj h2 k2 h3 k3 (h4.trans k4.symm),by omega⟩
  ·exact absurd h4 (k3 c h2 ‹_›)
 ·rcases k with ⟨_,k2,k3,k4⟩|⟨k1,k2,_⟩
  ·exact absurd k4 (h3 d k2 k3)
  ·exact ⟨h2.trans k2.symm,by omega⟩
theorem BGot.one {s:Str}{c d:Call}{e f:Int}(h:BGot s c e)(k:BGot s d f):c=d∧e=f:=by
 rcases h with ⟨h1,h2,h3,h4⟩|⟨h1,h2,h3⟩
 ·rcases k with ⟨k1,k2,k3,k4⟩|⟨_,_,k3⟩
  ·exact ⟨bytes_inj h2 k2 h3 k3 (h4.trans k4.symm),by omega⟩
  ·exact absurd h4 (k3 c h2 ‹_›)
 ·rcases k with ⟨_,k2,k3,k4⟩|⟨k1,k2,_⟩
  ·exact absurd k4 (h3 d k2 k3)
  ·exact ⟨h2.trans k2.symm,by omega⟩
theorem AGot.one {s:Str}{c d:Ans}{e f:Int}(h:AGot s c e)(k:AGot s d f):c=d∧e=f:=by
 rcases h with ⟨h1,h2,h3,h4⟩|⟨h1,h2,h3⟩
 ·rcases k with ⟨k1,k2,k3,k4⟩|⟨_,_,k3⟩
  ·exact ⟨said_inj h2 k2 h3 k3 (h4.trans k4.symm),by omega⟩
  ·exact absurd h4 (k3 c h2 ‹_›)
 ·rcases k with ⟨_,k2,k3,k4⟩|⟨k1,k2,_⟩
  ·exact absurd k4 (h3 d k2 k3)
  ·exact ⟨h2.trans k2.symm,by omega⟩
theorem got_same {s:Str}{c d:Call}{e f:Int}(h:Got s c e):(c=d∧e=f)↔Got s d f:=⟨λ⟨h1,h2⟩=>by subst h1 h2;exact h,λk=>h.one k⟩
theorem bgot_same {s:Str}{c d:Call}{e f:Int}(h:BGot s c e):(c=d∧e=f)↔BGot s d f:=⟨λ⟨h1,h2⟩=>by subst h1 h2;exact h,λk=>h.one k⟩
theorem agot_same {s:Str}{c d:Ans}{e f:Int}(h:AGot s c e):(c=d∧e=f)↔AGot s d f:=⟨λ⟨h1,h2⟩=>by subst h1 h2;exact h,λk=>h.one k⟩
def Tx (c:Call)(t:Str)(e:Int):Prop:=(valid c=true∧t=text c∧e=0)∨(valid c=false∧t=[]∧e=2)
theorem Tx.same {c:Call}{t u:Str}{e f:Int}(h:Tx c t e):(t=u∧e=f)↔Tx c u f:=by
 rcases h with ⟨h1,h2,h3⟩|⟨h1,h2,h3⟩
 ·exact ⟨λ⟨a,b⟩=>.inl ⟨h1,by rw[<-a,h2],by omega⟩,λk=>by
   rcases k with ⟨_,k2,k3⟩|⟨k1,_⟩
   ·exact ⟨by rw[h2,k2],by omega⟩
   ·rw [h1] at k1;cases k1⟩
 ·exact ⟨λ⟨a,b⟩=>.inr ⟨h1,by rw[<-a,h2],by omega⟩,λk=>by
   rcases k with ⟨k1,_⟩|⟨_,k2,k3⟩
   ·rw [h1] at k1;cases k1
   ·exact ⟨by rw[h2,k2],by omega⟩⟩
theorem Sd.same {c:Ans}{t u:Str}{e f:Int}(h:Sd c t e):(t=u∧e=f)↔Sd c u f:=by
 rcases h with ⟨h1,h2,h3⟩|⟨h1,h2,h3⟩
 ·exact ⟨λ⟨a,b⟩=>.inl ⟨h1,by rw[<-a,h2],by omega⟩,λk=>by
   rcases k with ⟨_,k2,k3⟩|⟨k1,_⟩
   ·exact ⟨by rw[h2,k2],by omega⟩
   ·rw [h1] at k1;cases k1⟩
 ·exact ⟨λ⟨a,b⟩=>.inr ⟨h1,by rw[<-a,h2],by omega⟩,λk=>by
   rcases k with ⟨k1,_⟩|⟨_,k2,k3⟩
   ·rw [h1] at k1;cases k1
   ·exact ⟨by rw[h2,k2],by omega⟩⟩
end Go.Pn.Cl
end
section
namespace Go.Pn.Cl
open Go Go.Pn Go.Lib
theorem in_small {q:Int}(h: -1000<=q∧q<=1000):InI64 q:=by unfold InI64;omega
theorem ex1:Tx ⟨1,[97,47,49],[],[103,114,101,101,110,32,116,101,97],3,[]⟩ [97,100,100,32,97,47,49,32,51,32,103,114,101,101,110,32,116,101,97] 0:=.inl ⟨by decide+kernel,by decide+kernel,rfl⟩
theorem ex2:Tx ⟨8,[],[],[],0,[1,171]⟩ [100,101,108,105,118,101,114,32,48,49,97,98] 0:=.inl ⟨by decide+kernel,by decide+kernel,rfl⟩
theorem ex3:Tx ⟨8,[],[],[],0,[]⟩ [100,101,108,105,118,101,114,32,45] 0:=.inl ⟨by decide+kernel,by decide+kernel,rfl⟩
theorem ex4:Tx ⟨4,[],[],[],0,[]⟩ [] 2:=.inr ⟨by decide+kernel,rfl,rfl⟩
theorem ex5:valid ⟨4,[107],[],[],0,[]⟩=true∧bytes ⟨4,[107],[],[],0,[]⟩=[4,1,107]:=⟨by decide+kernel,by decide+kernel⟩
theorem ex6:Got [119,105,115,104,32,97,32,98,32,116,101,97] ⟨6,[97],[98],[116,101,97],0,[]⟩ 0:=.inl ⟨rfl,by decide+kernel,in_small (by decide),by decide+kernel⟩
theorem ex7:Got [97,100,100,32,97,32,48,51,32,120] zeroC 6:=by
 have e0:ct [97,100,100,32,97,32,48,51,32,120]=([97,100,100],[97,32,48,51,32,120]):=by decide+kernel
 have h0:Rd [97,100,100,32,97,32,48,51,32,120] 1 0 _ _:=Rd.start (s:=[97,100,100,32,97,32,48,51,32,120]) (o:=1) (by decide) (by rw[e0];decide+kernel);rw[e0] at h0;have h1:=h0.key (by decide) (by decide+kernel);have e1:ct [97,32,48,51,32,120]=([97],[48,51,32,120]):=by decide+kernel
 rw[e1] at h1;have e2:ct [48,51,32,120]=([48,51],[120]):=by decide+kernel
 have h2:=h1.qty (n:=3) (by decide) (by decide+kernel) (λq hq (e:(ct [48,51,32,120]).1=itoa q)=>by
  rw[e2] at e;have h3:=atoi_itoa hq;rw[<-e] at h3;have h4:atoiAll [48,51]=.ok 3:=by decide+kernel
  rw[h4] at h3;injection h3) (in_small (by decide))
 rw[e2] at h2;have h3:=h2.item (by decide) (by decide+kernel);exact Got.bad (λd hv hq hd=>Rd.end (o:=1) h3 hv hq hd) (by decide+kernel)
theorem ex8:Got [103,101,116,32,97,32,98] zeroC 6:=by
 have e0:ct [103,101,116,32,97,32,98]=([103,101,116],[97,32,98]):=by decide+kernel
 have h0:Rd [103,101,116,32,97,32,98] 4 0 _ _:=Rd.start (s:=[103,101,116,32,97,32,98]) (o:=4) (by decide) (by rw[e0];decide+kernel);rw[e0] at h0;have h1:=h0.key (by decide) (by decide+kernel);have e1:ct [97,32,98]=([97],[98]):=by decide+kernel
 rw[e1] at h1;exact Got.bad (λd hv hq hd=>Rd.end (o:=4) h1 hv hq hd) (by decide+kernel)
theorem ex9:Got [115,101,116,32,65,32,45,49,32,120] ⟨2,[65],[],[120],(-1),[]⟩ 0:=.inl ⟨rfl,by decide+kernel,in_small (by decide),by decide+kernel⟩
theorem ex10:BGot [9] ⟨9,[],[],[],0,[]⟩ 0:=.inl ⟨rfl,by decide+kernel,in_small (by decide),by decide+kernel⟩
theorem ina1 {a:Ans}(h1: -1000<=a.err∧a.err<=1000)(h2: -1000<=a.count∧a.count<=1000)(h3:∀x∈a.lines,-1000<=x.2∧x.2<=1000):InA a:=⟨in_small h1,in_small h2,λx hx=>in_small (h3 x hx)⟩
theorem ex11:Sd ⟨4,0,1,[([116,101,97],3)],[]⟩ [111,107,32,103,101,116,32,49,10,51,32,116,101,97,10] 0:=.inl ⟨by decide+kernel,by decide+kernel,rfl⟩
theorem ex11a:InA ⟨4,0,1,[([116,101,97],3)],[]⟩:=ina1 (by decide) (by decide) (by decide)
theorem ex12:Sd ⟨1,9,0,[],[]⟩ [101,114,114,111,114,32,97,100,100,32,57,10] 0:=.inl ⟨by decide+kernel,by decide+kernel,rfl⟩
theorem ex12a:InA ⟨1,9,0,[],[]⟩:=ina1 (by decide) (by decide) (by decide)
theorem ex13:AGot [111,107,32,109,101,114,103,101,32,48,10] ⟨9,0,0,[],[]⟩ 0:=.inl ⟨rfl,by decide+kernel,ina1 (by decide) (by decide) (by decide),by decide+kernel⟩
theorem ex14:AGot [111,107,32,109,101,114,103,101,32,48] zeroA 6:=by
 have e0:rowsOf [111,107,32,109,101,114,103,101,32,48]=[[111,107,32,109,101,114,103,101,32,48]]:=by decide+kernel
 have e1:heads [111,107,32,109,101,114,103,101,32,48]=[[111,107],[109,101,114,103,101],[48],[],[]]:=by decide+kernel
 have h0:RdA [111,107,32,109,101,114,103,101,32,48] [[111,107,32,109,101,114,103,101,32,48]] 9 0 _:=RdA.start (n:=0) e0 rfl e1 rfl rfl rfl (by decide) (by decide+kernel) in0 (λq hq (e:[48]=itoa q)=>by
  have h3:=atoi_itoa hq;rw[<-e] at h3;have h4:atoiAll [48]=.ok 0:=by decide+kernel
  rw[h4] at h3;injection h3)
 exact AGot.bad (λd hv hI hd=>RdA.end (o:=9) h0 rfl hv hI hd) (by decide+kernel)
end Go.Pn.Cl
end
section
namespace Go.Pn
open Go.ChangeShapes Go.WideShapes Go.ChangeAt Go.RowKit
section
variable {H:Type}{enc:TypeId×Value->H}{P:Program}{W:World}{t e:TypeId}
theorem trod_field {base:Nat}{sp:Nat->Bool}{held:Bool}{fuel:Nat}{cs:List Value}{x:DataW H×List MemPlace}{fs:Array Field}{i:Nat}{f:Field}(ht:P.underlying t=some (.struct fs))(h:DataW.trod enc P W base sp held fuel t cs=some x)(hi:fs[i]? =some f)(hc:P.cellsOf f.type=1):
 ∃n y,DataW.trod enc P W base sp held n f.type ((cs.drop f.offset).take 1)=some y:=by
 obtain ⟨xs,n,_,_,_,hl,hf⟩:=DataW.trod_struct ht h;have h1:=hf i f hi;rw[hc] at h1;have h2:i<xs.length:=by rw[hl];exact (Array.getElem?_eq_some_iff.1 hi).1
 rw[List.getElem?_eq_getElem h2] at h1;exact ⟨n,_,h1⟩
theorem take_at {cs:List Value}{i:Nat}{a b:Value}(h:(cs.drop i).take 1=[a])(h2:cs[i]? =some b):b=a:=by
 obtain ⟨h3,rfl⟩:=List.getElem?_eq_some_iff.1 h2;rw[List.drop_eq_getElem_cons h3,List.take_succ_cons,List.take_zero] at h
 simpa using h
theorem row_texts {l:List (String×DataW Unit)}(h:laidMet P l W){name:String}{zs:List (List UInt8×List UInt8)}{g n:Nat}{f0 f1:Field}{dd:DataW Unit}(hm:(name,dd)∈l)(hd:dd=.agg (zs.map λx=>.agg [.lit (.string x.1),.lit (.string x.2)]))
 (hg:P.globalNamed name=some g)(hty:(P.globals[g]?).map (·.type)=some t)(ht:P.underlying t=some (.array n e))(he:P.underlying e=some (.struct #[f0,f1]))(u0:P.underlying f0.type=some .string)(u1:P.underlying f1.type=some .string)
 (c0:P.cellsOf f0.type=1)(c1:P.cellsOf f1.type=1)(o0:f0.offset=0)(o1:f1.offset=1)(hce:P.cellsOf e=2)(hct:P.cellsOf t=n*2):Row rowF.enc W (λk=>k=g) g 0 zs:=by
 obtain ⟨g',t',cs,fuel,p,h1,h2,h3,h4⟩:=laid_mem h hm;obtain rfl:=Option.some.inj (hg.symm.trans h1);obtain rfl:=Option.some.inj (hty.symm.trans h2);rw[hd] at h4;unfold World.var? at h3;rw[hg] at h3;simp only[Option.bind_some] at h3
 split at h3
 ·rename_i c ty fr hh
  cases h3;cases fuel with
  |zero=>simp[DataW.trod] at h4
  |succ fuel=>
   simp only[DataW.trod,ht,hce,hct] at h4
   split at h4
   ·rename_i hl
    obtain ⟨xs,hmm,hx⟩:=Option.map_eq_some_iff.1 h4;have hxs:xs.map (·.1)=zs.map λx=>(DataW.agg [.lit (.string x.1),.lit (.string x.2)]:DataW Unit):=by
     have:=congrArg Prod.fst hx
     simpa using this
    have hxl:xs.length=n:=by simpa using Lib.mapM_length hmm
    have hzl:zs.length=n:=by
     have:=congrArg List.length hxs
     simp at this
     omega
    refine ⟨cs,ty,fr,rfl,hh,?_,λi hi=>?_⟩
    ·show 0+zs.length*2<=cs.size
     have hl2:cs.size=n*2:=by first|exact hl|(rw[<-Array.length_toList];exact hl)
     omega
    ·show (cs.toList.drop (0+i*2)).take 2=[str zs[i].1,str zs[i].2]
     have h9:i<n:=by omega
     obtain ⟨b,hb,hf⟩:=Lib.mapM_at hmm i i (by simp[h9]);obtain ⟨y0,y1,m,hy,hlen,e0,e1⟩:=trod_struct2 he hf;rw[c0,o0] at e0;rw[c1,o1] at e1;obtain ⟨s0,k0,l0,_⟩:=DataW.trod_string u0 e0;obtain ⟨s1,k1,l1,_⟩:=DataW.trod_string u1 e1;have h5:(xs.map (·.1))[i]? =some b.1:=by simp[hb]
     rw[hxs,hy,l0,l1] at h5;simp only[List.getElem?_map,List.getElem?_eq_getElem hi,Option.map_some,Option.some.injEq,DataW.agg.injEq,List.cons.injEq,DataW.lit.injEq,Lit.string.injEq,and_true] at h5;rw[hce] at hlen;rw[Nat.zero_add]
     generalize (cs.toList.drop (i*2)).take 2=q at*
     match q,hlen with
     |[a,b2],_=>
      have k0':[a]=[.string s0]:=by simpa using k0
      have k1':[b2]=[.string s1]:=by simpa using k1
      rw[List.cons.injEq] at k0' k1';rw[k0'.1,k1'.1,h5.1,h5.2]
      simp[str]
   ·cases h4
 ·cases h3
theorem Opens.byte (ht:P.underlying t=some (.int .u8))(hc:P.cellsOf t=1):Opens P W byteE (λ_=>True) t:=
 (Opens.int ht hc).imp rfl λcs z h hw=>by
   simp only[Lit.wf,Bool.and_eq_true,decide_eq_true_eq] at hw;have e1:IntKind.u8.min=0:=rfl;have e2:IntKind.u8.max=255:=rfl;refine ⟨UInt8.ofNat z.toNat,?_,trivial⟩;show cs=[Value.int .u8 _];rw[show cs=[Value.int .u8 z] from h]
   congr 2
   have h7:z.toNat<256:=by omega
   rw[show (UInt8.ofNat z.toNat).toNat=z.toNat from by simp;omega]
   omega
theorem call_at {base:Nat}{v:Value}{d:DataW H}{p:List MemPlace}{f0 f1 f2 f3 f4 f5:Field}(ht:P.underlying t=some (.struct #[f0,f1,f2,f3,f4,f5]))(u0:P.underlying f0.type=some (.int .i64))(u1:P.underlying f1.type=some .string)(u2:P.underlying f2.type=some .string)(u3:P.underlying f3.type=some .string)
 (u4:P.underlying f4.type=some (.int .i64))(u5:P.underlying f5.type=some (.slice e))(he:P.underlying e=some (.int .u8))(ce:P.cellsOf e=1)(c0:P.cellsOf f0.type=1)(c1:P.cellsOf f1.type=1)(c2:P.cellsOf f2.type=1)(c3:P.cellsOf f3.type=1)(c4:P.cellsOf f4.type=1)(c5:P.cellsOf f5.type=1)
 (o0:f0.offset=0)(o1:f1.offset=1)(o2:f2.offset=2)(o3:f3.offset=3)(o4:f4.offset=4)(o5:f5.offset=5)(hct:P.cellsOf t=6)
 (hval:Value.okWide P W .any base t v)(h:DataW.Trod enc P W 0 (λ_=>true) true t v d p):
 ∃(c:Cl.Call) (vd:Value),v=.agg #[.int .i64 c.op,str c.key,str c.other,str c.item,.int .i64 c.qty,vd]∧Sl byteE W (λk=>k<W.heap.size) vd c.data∧Cl.InI64 c.qty:=by
 obtain ⟨⟨l⟩,rfl,hs⟩:=okWide_struct ht hval;rw[hct] at hs;obtain ⟨fuel,hf⟩:=h;simp only[Value.cells] at hf;obtain ⟨n0,y0,g0⟩:=trod_field ht hf (i:=0) (f:=f0) rfl c0;obtain ⟨n1,y1,g1⟩:=trod_field ht hf (i:=1) (f:=f1) rfl c1;obtain ⟨n2,y2,g2⟩:=trod_field ht hf (i:=2) (f:=f2) rfl c2;obtain ⟨n3,y3,g3⟩:=trod_field ht hf (i:=3) (f:=f3) rfl c3;obtain ⟨n4,y4,g4⟩:=trod_field ht hf (i:=4) (f:=f4) rfl c4;obtain ⟨n5,y5,g5⟩:=trod_field ht hf (i:=5) (f:=f5) rfl c5;rw[o0] at g0;rw[o1] at g1;rw[o2] at g2;rw[o3] at g3;rw[o4] at g4;rw[o5] at g5;obtain ⟨z0,k0,_,_⟩:=DataW.trod_int u0 g0;obtain ⟨s1,k1,_,_⟩:=DataW.trod_string u1 g1;obtain ⟨s2,k2,_,_⟩:=DataW.trod_string u2 g2;obtain ⟨s3,k3,_,_⟩:=DataW.trod_string u3 g3;obtain ⟨z4,k4,_,w4⟩:=DataW.trod_int u4 g4;obtain ⟨xs,⟨v5,k5,hv5⟩,_⟩:=((Opens.byte (W:=W) he ce).slice u5 c5 (by decide)).op g5;have hs2:l.length=6:=hs
 match l,hs2 with
 |[a0,a1,a2,a3,a4,a5],_=>
  obtain rfl:=take_at k0 (b:=a0) rfl;obtain rfl:=take_at k1 (b:=a1) rfl;obtain rfl:=take_at k2 (b:=a2) rfl;obtain rfl:=take_at k3 (b:=a3) rfl;obtain rfl:=take_at k4 (b:=a4) rfl;obtain rfl:=take_at k5 (b:=a5) rfl;simp only[Lit.wf,Bool.and_eq_true,decide_eq_true_eq] at w4;refine ⟨⟨z0,s1.data.toList,s2.data.toList,s3.data.toList,z4,xs⟩,_,?_,hv5,?_⟩
  ·simp [str]
  ·exact ⟨w4.1,w4.2⟩
theorem ans_at {base:Nat}{v:Value}{d:DataW H}{p:List MemPlace}{f0 f1 f2 f3 f4 g0 g1:Field}{e2 e3 e4:TypeId}(ht:P.underlying t=some (.struct #[f0,f1,f2,f3,f4]))(u0:P.underlying f0.type=some (.int .i64))(u1:P.underlying f1.type=some (.int .i64))(u2:P.underlying f2.type=some (.int .i64))
 (u3:P.underlying f3.type=some (.slice e2))(l3:P.underlying e2=some (.struct #[g0,g1]))(s0:P.underlying g0.type=some .string)(s1:P.underlying g1.type=some (.int .i64))(d0:P.cellsOf g0.type=1)(d1:P.cellsOf g1.type=1)(q0:g0.offset=0)(q1:g1.offset=1)(d2:P.cellsOf e2=2)
 (u4:P.underlying f4.type=some (.slice e3))(l4:P.underlying e3=some (.slice e4))(he:P.underlying e4=some (.int .u8))(ce:P.cellsOf e4=1)(ce3:P.cellsOf e3=1)(c0:P.cellsOf f0.type=1)(c1:P.cellsOf f1.type=1)(c2:P.cellsOf f2.type=1)(c3:P.cellsOf f3.type=1)(c4:P.cellsOf f4.type=1)
 (o0:f0.offset=0)(o1:f1.offset=1)(o2:f2.offset=2)(o3:f3.offset=3)(o4:f4.offset=4)(hct:P.cellsOf t=5)
 (hval:Value.okWide P W .any base t v)(h:DataW.Trod enc P W 0 (λ_=>true) true t v d p):
 ∃(a:Cl.Ans) (vl vb:Value) (ro:List Raw),v=.agg #[.int .i64 a.op,.int .i64 a.err,.int .i64 a.count,vl,vb]∧Sl lineF.enc W (λk=>k<W.heap.size) vl a.lines∧Sl slF.enc W (λk=>k<W.heap.size) vb ro∧SlsL byteE W (λk=>k<W.heap.size) ro a.bats∧Cl.InA a:=by
 obtain ⟨⟨l⟩,rfl,hs⟩:=okWide_struct ht hval;rw[hct] at hs;obtain ⟨fuel,hf⟩:=h;simp only[Value.cells] at hf;obtain ⟨n0,y0,g0⟩:=trod_field ht hf (i:=0) (f:=f0) rfl c0;obtain ⟨n1,y1,g1⟩:=trod_field ht hf (i:=1) (f:=f1) rfl c1;obtain ⟨n2,y2,g2⟩:=trod_field ht hf (i:=2) (f:=f2) rfl c2;obtain ⟨n3,y3,g3⟩:=trod_field ht hf (i:=3) (f:=f3) rfl c3;obtain ⟨n4,y4,g4⟩:=trod_field ht hf (i:=4) (f:=f4) rfl c4;rw[o0] at g0;rw[o1] at g1;rw[o2] at g2;rw[o3] at g3;rw[o4] at g4;obtain ⟨z0,k0,_,_⟩:=DataW.trod_int u0 g0;obtain ⟨z1,k1,_,w1⟩:=DataW.trod_int u1 g1;obtain ⟨z2,k2,_,w2⟩:=DataW.trod_int u2 g2;have OL:Opens P W lineF.enc (λx=>Cl.InI64 x.2) e2:=(Opens.struct2 l3 (Opens.str s0 d0) (Opens.int s1 d1) q0 q1 d2).imp rfl λcs d h hq=>by
  obtain ⟨a,b,rfl,ha,hb⟩:=h;have hw:=hq.2;simp only[Lit.wf,Bool.and_eq_true,decide_eq_true_eq] at hw;exact ⟨d,by rw[show a=[str d.1] from ha,show b=[.int .i64 d.2] from hb];rfl,hw.1,hw.2⟩
 obtain ⟨xs,⟨v3,k3,hv3⟩,hl3⟩:=(OL.slice u3 c3 (by decide)).op g3;obtain ⟨ys,⟨v4,k4,hv4⟩,_⟩:=(((Opens.byte (W:=W) he ce).slice l4 ce3 (by decide)).slice u4 c4 (by decide)).op g4;obtain ⟨ro,hr1,hr2⟩:=Sl.raws1 (E:=byteE) hv4;have hs2:l.length=5:=hs
 match l,hs2 with
 |[a0,a1,a2,a3,a4],_=>
  obtain rfl:=take_at k0 (b:=a0) rfl;obtain rfl:=take_at k1 (b:=a1) rfl;obtain rfl:=take_at k2 (b:=a2) rfl;obtain rfl:=take_at k3 (b:=a3) rfl;obtain rfl:=take_at k4 (b:=a4) rfl;simp only[Lit.wf,Bool.and_eq_true,decide_eq_true_eq] at w1 w2;exact ⟨⟨z0,z1,z2,xs,ys⟩,_,_,ro,rfl,hv3,hr1,hr2,⟨w1.1,w1.2⟩,⟨w2.1,w2.2⟩,hl3⟩
end
end Go.Pn
end
section
namespace Go.Pn.Cl
open Go Go.Pn Go.Lib
def Sm (n:Nat)(c:Call):Prop:=c.key.length<=120∧c.other.length<=120∧c.item.length<=120∧c.data.length<=n
theorem Sm.short {n:Nat}{c:Call}(h:Sm n c)(hn:n<=1000000):Short c:=⟨Nat.le_trans h.1 (by decide),Nat.le_trans h.2.1 (by decide),Nat.le_trans h.2.2.1 (by decide),Nat.le_trans h.2.2.2 hn⟩
theorem piece_sm {n:Nat}{c:Call}(h:Sm n c)(hq:InI64 c.qty)(x:UInt8):(piece c x).length<=130+2*n:=by
 obtain ⟨h1,h2,h3,h4⟩:=h;have h5:=itoa_le hq;have h6:=hex_len c.data;unfold piece
 split
 ·omega
 ·split
  ·omega
  ·split
   ·omega
   ·split
    ·omega
    ·split
     ·simp;omega
     ·omega
theorem text_sm {n:Nat}{c:Call}(h:Sm n c)(hq:InI64 c.qty):(text c).length<=600+8*n:=by
 unfold text;have h1:(Vc.jn (word c.op::(parts c.op).map (piece c))).length<=(word c.op::(parts c.op).map (piece c)).length*((130+2*n)+1):=jn_le λx hx=>by
  rcases List.mem_cons.1 hx with rfl|hx
  ·have:=wl_le c.op;omega
  ·obtain ⟨y,_,rfl⟩:=List.mem_map.1 hx
   exact piece_sm h hq y
 have h2:=pl_le c.op;have h3:(word c.op::(parts c.op).map (piece c)).length<=4:=by rw[List.length_cons,List.length_map];omega
 have h4:=Nat.mul_le_mul_right ((130+2*n)+1) h3
 omega
theorem pieceB_sm {n:Nat}{c:Call}(h:Sm n c)(hn:n<=1000000)(x:UInt8):(pieceB c x).length<=130+n:=by
 obtain ⟨h1,h2,h3,h4⟩:=h;have h5:=Cn.num_u' c.qty;have k:∀s:Str,s.length<=1000000->(Cn.strB s).length<=s.length+10:=λs hs=>by
  have:=Cn.num_le s.length (by omega);unfold Cn.strB;rw[List.length_append];omega
 have a1:=k c.key (by omega);have a2:=k c.other (by omega);have a3:=k c.item (by omega);have a4:=k c.data (by omega);unfold pieceB
 split
 ·omega
 ·split
  ·omega
  ·split
   ·omega
   ·split
    ·omega
    ·omega
theorem bytes_sm {n:Nat}{c:Call}(h:Sm n c)(hn:n<=1000000):(bytes c).length<=400+3*n:=by
 have h1:=Cn.flatMap_le (f:=pieceB c) (b:=130+n) (l:=parts c.op) λx _=>pieceB_sm h hn x
 have h2:=pl_le c.op;have h3:=Nat.mul_le_mul_left (130+n) h2;unfold bytes;rw[List.length_cons]
 omega
theorem said_sm {a:Ans}(h:hasT a=true)(hA:InA a)(hb:Brief a):(said a).length<=20000:=by
 have h0:=hasT_iff.1 h;have h1:=lns_le (l:=rowsT a) (r:=200) λx hx=>by
  rcases List.mem_cons.1 hx with rfl|hx
  ·have:=first_le h0.1.1 hA;omega
  ·rcases List.mem_append.1 hx with hx|hx
   ·obtain ⟨l,hl,rfl⟩:=List.mem_map.1 hx
    exact lineT_le (h0.2.1 l hl) (hA.2.2 l hl)
   ·obtain ⟨l,hl,rfl⟩:=List.mem_map.1 hx
    have:=hb.2.2.2 l hl;rw[hex_len];omega
 have h2:(rowsT a).length<=61:=by
  unfold rowsT;rw[List.length_cons,List.length_append,List.length_map,List.length_map];have:=hb.1;have:=hb.2.1
  omega
 have h3:=Nat.mul_le_mul_right (200+1) h2;unfold said
 omega
theorem text_pos {c:Call}(h:valid c=true):1<=(text c).length:=by
 have h1:=(word_len (valid_iff.1 h).1).1;unfold text;cases hp:(parts c.op).map (piece c) with
 |nil=>rw[jn_one];exact h1
 |cons a r=>rw[jn_two,List.length_append];omega
theorem said_pos {a:Ans}:1<=(said a).length:=by
 obtain ⟨t,ht⟩:=said_end a;rw[ht,List.length_append];exact Nat.le_add_left _ _
theorem Tx.ok {c:Call}{t:Str}{e:Int}(h:Tx c t e)(he:e=0):valid c=true∧t=text c:=by
 rcases h with ⟨h1,h2,_⟩|⟨_,_,h3⟩
 ·exact ⟨h1,h2⟩
 ·omega
theorem Sd.ok {c:Ans}{t:Str}{e:Int}(h:Sd c t e)(he:e=0):hasT c=true∧t=said c:=by
 rcases h with ⟨h1,h2,_⟩|⟨_,_,h3⟩
 ·exact ⟨h1,h2⟩
 ·omega
theorem Got.ok {c:Call}{t:Str}{e:Int}(h:Got t c e)(he:e=0):valid c=true∧InI64 c.qty∧text c=t:=by
 rcases h with ⟨_,h⟩|⟨h3,_⟩
 ·exact h
 ·omega
theorem BGot.ok {c:Call}{t:Str}{e:Int}(h:BGot t c e)(he:e=0):valid c=true∧InI64 c.qty∧bytes c=t:=by
 rcases h with ⟨_,h⟩|⟨h3,_⟩
 ·exact h
 ·omega
theorem AGot.ok {c:Ans}{t:Str}{e:Int}(h:AGot t c e)(he:e=0):hasT c=true∧InA c∧said c=t:=by
 rcases h with ⟨_,h⟩|⟨h3,_⟩
 ·exact h
 ·omega
theorem part_le {c:Call}(hv:valid c=true):c.key.length<=100∧c.other.length<=100∧c.item.length<=100:=by
 obtain ⟨_,_,hp⟩:=valid_iff.1 hv;refine ⟨?_,?_,?_⟩
 ·have h:=hp 107 (by decide)
  unfold part at h
  split at h
  ·exact (between_iff.1 (show between 33 c.key=true from h)).2.2
  ·rw [show c.key=[] from of_decide_eq_true h];exact Nat.zero_le _
 ·have h:=hp 111 (by decide)
  unfold part at h
  split at h
  ·exact (between_iff.1 (show between 33 c.other=true from h)).2.2
  ·rw [show c.other=[] from of_decide_eq_true h];exact Nat.zero_le _
 ·have h:=hp 105 (by decide)
  unfold part at h
  split at h
  ·exact (between_iff.1 (show between 32 c.item=true from h)).2.2
  ·rw [show c.item=[] from of_decide_eq_true h];exact Nat.zero_le _
theorem valid_short {c:Call}(hv:valid c=true):Short c:=by
 obtain ⟨h1,h2,h3⟩:=part_le hv;have h4:=(valid_iff.1 hv).2.1;exact ⟨by omega,by omega,by omega,by omega⟩
theorem hasT_short {a:Ans}(h:hasT a=true):ShortA a:=by
 obtain ⟨h1,h2,h3,_⟩:=hasT_iff.1 h;obtain ⟨_,_,_,_,h5,h6⟩:=h1;exact ⟨by omega,by omega,λx hx=>by have:=(between_iff.1 (lineOk_btw (h2 x hx)).1).2.2;omega,λx hx=>by have:=of_decide_eq_true (h3 x hx);omega⟩
theorem jn_mem:∀{l:List Str} {y:UInt8},y∈Vc.jn l->y=32∨∃x∈l,y∈x
 |[],y,h=>by rw[jn_nil] at h;cases h
 |[a],y,h=>by rw[jn_one] at h;exact .inr ⟨a,by simp,h⟩
 |a::b::r,y,h=>by
  rw[jn_two] at h;rcases List.mem_append.1 h with h|h
  ·exact .inr ⟨a,by simp,h⟩
  ·rcases List.mem_cons.1 h with h|h
   ·exact .inl h
   ·rcases jn_mem h with h|⟨x,hx,hy⟩
    ·exact .inl h
    ·exact .inr ⟨x,by simp[List.mem_cons.1 hx],hy⟩
theorem text_ln {c:Call}(hv:valid c=true):∀y∈text c,y≠10:=by
 intro y hy;rcases jn_mem hy with rfl|⟨x,hx,hy⟩
 ·decide
 ·rcases List.mem_cons.1 hx with rfl|hx
  ·exact (word_plain (valid_iff.1 hv).1 y hy).2
  ·obtain ⟨z,hz,rfl⟩:=List.mem_map.1 hx
   exact piece_ln hv hz y hy
theorem no_ln {c:Call}(hv:valid c=true){i:Nat}(hi:i<(text c).length):¬((text c).getD ((i:Int)).toNat 0).toBitVec=10#8:=λh=>text_ln hv _ (List.getElem_mem hi) (get_10 hi h)
theorem text_same {a b:Call}{t:Str}(ha:valid a=true)(hb:valid b=true)(hq:InI64 a.qty)(hr:InI64 b.qty)(ht:t=text b):decide (text a=t)=sameC a b:=by
 by_cases h:a=b
 ·rw [(sameC_iff.2 h),dT (by rw[ht,h])]
 ·rw [<-sameC_no h,decide_eq_false λq=>h (text_inj ha hb hq hr (q.trans ht))]
theorem bytes_same {a b:Call}{s t:Str}(ha:valid a=true)(hb:valid b=true)(hq:InI64 a.qty)(hr:InI64 b.qty)(hs:s=bytes a)(ht:t=bytes b):decide (s=t)=sameC a b:=by
 by_cases h:a=b
 ·rw [(sameC_iff.2 h),dT (by rw[hs,ht,h])]
 ·rw [<-sameC_no h,decide_eq_false λq=>h (bytes_inj ha hb hq hr (hs.symm.trans (q.trans ht)))]
end Go.Pn.Cl
end
