/-
 PLAIN LAWS OF BATCHES, 15: small entries have short batches. Of no program.
-/
import Derived.Test.YtpbcafkcfobngaaGreatDoorCards
import Derived.Test.YtpbcafkcfobngaaGreatDoorTie
import Derived.Test.YtpbcafkcfobngaaGreatDoorBatchDecodesM2
section
namespace Go.Pn.Bt
open Go Go.Pn Go.Pn.Jn
section
variable {l : List Ent} {most : Int}
theorem small_len (h : small l most = true) : (l.length : Int) ≤ most := (small_iff h).1
end
end Go.Pn.Bt
end
section
namespace Go.Pn.Bt
theorem rd_fin1 {p : List UInt8} {l : List Ent} {ok : Bool} (h : p = end4 (p.take (p.length - 4))) (hr : ReadRes (p.take (p.length - 4)) l ok) (hb : (ok && valid l) = false) : DecRes p [] 12 := by
 have q := dec_body h hr.bodyR
 rw [hb] at q
 exact q
theorem rd_fin2 {p : List UInt8} {l : List Ent} {ok : Bool} (h : p = end4 (p.take (p.length - 4))) (hr : ReadRes (p.take (p.length - 4)) l ok) (hb : (ok && valid l) = true) : DecRes p l 0 := by
 have q := dec_body h hr.bodyR
 rw [hb] at q
 exact q
theorem end4_ne {p : List UInt8} (h : p.length < 4) : p ≠ end4 (p.take (p.length - 4)) := fun q => by
 have q2 := congrArg List.length q
 rw [end4_len] at q2
 omega
end Go.Pn.Bt
end
