/-
 Small entries: what their sizes are. No condition.
-/
import Derived.Test.YtlgjaminfabchaaGreatDoorCards
import Derived.Test.YtlgjaminfabchaaGreatDoorTie
import Derived.Test.YtlgjaminfabchaaGreatDoorDigestSyncsM2
namespace Go.Pn.Dg
open Go Go.Pn Go.Pn.Bt Go.Pn.Jn
theorem smE_iff {x:Ent}(h:smE x=true):x.1.length<=100∧x.2.1.1.length<=20∧x.2.1.2.length<=20∧x.2.2.length<=20∧∀y∈x.2.2,y.1.length<=100∧y.2.length<=5:=by
 unfold smE at h;rw[Bool.and_eq_true,decide_eq_true_eq,List.all_eq_true] at h;obtain ⟨⟨h1,h2,h3,h4⟩,h5⟩:=h;refine ⟨h1,h4,h3,h2,λy hy=>?_⟩;have:=h5 y hy;unfold smI at this;rw[Bool.and_eq_true,decide_eq_true_eq,decide_eq_true_eq] at this;exact this
theorem small_iff {l:List Ent}{most:Int}(h:small l most=true):(l.length:Int)<=most∧∀x∈l,smE x=true:=by
 unfold small at h;rw[Bool.and_eq_true,decide_eq_true_eq,List.all_eq_true] at h;exact h
theorem small_big {l:List Ent}{most:Int}(h:small l most=true):Big l:=λx hx=>by
 obtain ⟨h1,h2,h3,h4,h5⟩:=smE_iff ((small_iff h).2 x hx);exact ⟨by omega,by omega,by omega,by omega,λy hy=>by have:=h5 y hy;omega⟩
theorem small_mid {l:List Ent}{most:Int}(h:small l most=true):Mid 20000 l:=λx hx=>by
 obtain ⟨h1,h2,h3,h4,h5⟩:=smE_iff ((small_iff h).2 x hx);exact ⟨by omega,by omega,by omega,λy hy=>by have:=h5 y hy;omega⟩
theorem serr_small {a b:List Ent}(ha:a.length<=12)(hb:b.length<=12)(h:¬check a=0∨¬check b=0):serr a b=2:=serr_bad (by omega) h
theorem serr_none {a b:List Ent}(ha:a.length<=12)(hb:b.length<=12)(h1:check a=0)(h2:check b=0):serr a b=0:=serr_ok h1 h2 (by have:=syncM_len a b;omega)
theorem syn_no {a b c:List Ent}{e:Int}(h:¬e=0):syn a b c e=[]:=by
 unfold syn;rw[if_neg h,List.take_zero]
end Go.Pn.Dg
