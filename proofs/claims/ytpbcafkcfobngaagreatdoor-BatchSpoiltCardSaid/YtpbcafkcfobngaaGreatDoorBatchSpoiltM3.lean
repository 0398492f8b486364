/-
 PLAIN LAWS OF BATCHES, 15: small entries have short batches. Of no program.
-/
import Derived.Test.YtpbcafkcfobngaaGreatDoorCards
import Derived.Test.YtpbcafkcfobngaaGreatDoorTie
import Derived.Test.YtpbcafkcfobngaaGreatDoorBatchSpoiltM2
section
namespace Go.Pn.Bt
open Go Go.Pn Go.Pn.Jn
section
variable {l : List Ent} {most : Int}
theorem small_ent (h : small l most = true) : ∀ x ∈ l, (entB x).length ≤ 25110 := fun x hx => ent_small ((small_iff h).2 x hx).1 ((small_iff h).2 x hx).2
theorem small_flat (h : small l most = true) : (l.flatMap entB).length ≤ 25110 * l.length := Cn.flatMap_le (small_ent h)
theorem small_len (h : small l most = true) : (l.length : Int) ≤ most := (small_iff h).1
theorem small_valid (h : small l most = true) (hm : most ≤ 1024) : valid l = ordered l := by
 unfold valid;rw [decide_eq_true (by have := small_len h; omega), Bool.true_and]
theorem small_mid (h : small l most = true) : Mid 20000 l := fun x hx => by
 obtain ⟨h1, h2, h3, h4⟩ := Cn.small_iff ((small_iff h).2 x hx).2;exact ⟨by omega, by omega, by omega, fun y hy => by have := h4 y hy; omega⟩
theorem enc_le (h : small l most = true) : (enc l).length ≤ 25110 * l.length + 14 + l.length := by
 have h1 := small_flat h;have h2 := num_le_len l.length;rw [enc_len, body_len]
 omega
where
 num_le_len (n : Nat) : (Cn.num n).length ≤ 10 + n := by
  by_cases h : n < 2 ^ 64
  ·have := Cn.num_le n h; omega
  ·have key : ∀ m : Nat, (Cn.num m).length ≤ 1 + m := by
    intro m
    induction m using Nat.strongRecOn with
    | ind m ih =>
      by_cases q : m < 128
      ·rw [Cn.num_lt q]; simp
      ·rw [Cn.num_ge q, List.length_cons]
       have := ih (m / 128) (by omega)
       omega
   have := key n
   omega
end
end Go.Pn.Bt
end
section
namespace Go.Pn.Bt
theorem rd_fin1 {p : List UInt8} {l : List Ent} {ok : Bool} (h : p = end4 (p.take (p.length - 4))) (hr : ReadRes (p.take (p.length - 4)) l ok) (hb : (ok && valid l) = false) : DecRes p [] 12 := by
 have q := dec_body h hr.bodyR;rw [hb] at q;exact q
theorem rd_fin2 {p : List UInt8} {l : List Ent} {ok : Bool} (h : p = end4 (p.take (p.length - 4))) (hr : ReadRes (p.take (p.length - 4)) l ok) (hb : (ok && valid l) = true) : DecRes p l 0 := by
 have q := dec_body h hr.bodyR;rw [hb] at q;exact q
theorem end4_ne {p : List UInt8} (h : p.length < 4) : p ≠ end4 (p.take (p.length - 4)) := fun q => by
 have q2 := congrArg List.length q;rw [end4_len] at q2
 omega
end Go.Pn.Bt
end
