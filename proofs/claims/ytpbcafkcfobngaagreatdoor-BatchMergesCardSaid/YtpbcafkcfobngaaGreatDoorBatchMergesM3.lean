/-
 PLAIN LAWS OF BATCHES, 15: small entries have short batches. Of no program.
-/
import Derived.Test.YtpbcafkcfobngaaGreatDoorCards
import Derived.Test.YtpbcafkcfobngaaGreatDoorTie
import Derived.Test.YtpbcafkcfobngaaGreatDoorBatchMergesM2
section
namespace Go.Pn.Bt
open Go Go.Pn Go.Pn.Jn
section
variable {l : List Ent} {most : Int}
theorem small_ent (h : small l most = true) : ∀ x ∈ l, (entB x).length ≤ 25110 := fun x hx => ent_small ((small_iff h).2 x hx).1 ((small_iff h).2 x hx).2
theorem small_flat (h : small l most = true) : (l.flatMap entB).length ≤ 25110 * l.length := Cn.flatMap_le (small_ent h)
theorem small_len (h : small l most = true) : (l.length : Int) ≤ most := (small_iff h).1
theorem small_valid (h : small l most = true) (hm : most ≤ 1024) : valid l = ordered l := by
 unfold valid
 rw [decide_eq_true (by have := small_len h; omega), Bool.true_and]
theorem small_mid (h : small l most = true) : Mid 20000 l := fun x hx => by
 obtain ⟨h1, h2, h3, h4⟩ := Cn.small_iff ((small_iff h).2 x hx).2
 exact ⟨by omega, by omega, by omega, fun y hy => by have := h4 y hy; omega⟩
theorem enc_le (h : small l most = true) : (enc l).length ≤ 25110 * l.length + 14 + l.length := by
 have h1 := small_flat h
 have h2 := num_le_len l.length
 rw [enc_len, body_len]
 omega
where
 num_le_len (n : Nat) : (Cn.num n).length ≤ 10 + n := by
  by_cases h : n < 2 ^ 64
  ·have := Cn.num_le n h; omega
  ·have key : ∀ m : Nat, (Cn.num m).length ≤ 1 + m := by
    intro m
    induction m using Nat.strongRecOn with
    | ind m ih =>
      by_cases q : m < 128
      ·rw [Cn.num_lt q]; simp
      ·rw [Cn.num_ge q, List.length_cons]
       have := ih (m / 128) (by omega)
       omega
   have := key n
   omega
end
end Go.Pn.Bt
end
section
namespace Go.Pn.Bt
open Go Go.Pn Go.Pn.Jn
theorem merge_mem {a b : List Ent} (ha : Ord a) (hb : Ord b) {x : Ent} (hx : x ∈ merge a b) : x ∈ a ∨ x ∈ b ∨ ∃ c d, (x.1, c) ∈ a ∧ (x.1, d) ∈ b ∧ x.2 = join c d := by
 have h := get_mem (merge_ord ha hb) hx
 rw [merge_get ha hb] at h
 cases hc : get a x.1 with
 | none =>
   cases hd : get b x.1 with
   | none => rw [hc, hd] at h; cases h
   | some d =>
     rw [hc, hd] at h
     have e : d = x.2 := Option.some.inj h
     subst e
     exact .inr (.inl (mem_get hd))
 | some c =>
   cases hd : get b x.1 with
   | none =>
     rw [hc, hd] at h
     have e : c = x.2 := Option.some.inj h
     subst e
     exact .inl (mem_get hc)
   | some d =>
     rw [hc, hd] at h
     exact .inr (.inr ⟨c, d, mem_get hc, mem_get hd, (Option.some.inj h).symm⟩)
section
variable {a b : List Ent} {m1 m2 : Int}
theorem merge_mid (sa : small a m1 = true) (sb : small b m2 = true) (ha : Ord a) (hb : Ord b) : Mid 20000 (merge a b) := fun x hx => by
 rcases merge_mem ha hb hx with h | h | ⟨c, d, h1, h2, h3⟩
 ·exact small_mid sa x h
 ·exact small_mid sb x h
 ·obtain ⟨p1, p2, p3, p4⟩ := Cn.small_iff ((small_iff sa).2 _ h1).2
  obtain ⟨q1, q2, q3, q4⟩ := Cn.small_iff ((small_iff sb).2 _ h2).2
  (try dsimp only at p1 p2 p3 q1 q2 q3)
  obtain ⟨r1, r2, r3⟩ := join_sizes c d
  have r4 := join_marks (a := c) (b := d) (n := 20) (fun z hz => (p4 z hz).1) (fun z hz => (q4 z hz).1)
  have r5 := join_names (ha.ok _ h1).2 (hb.ok _ h2).2
  rw [h3]
  exact ⟨by omega, by omega, by omega, fun z hz => by have := r4 z hz; have := r5 z hz; omega⟩
theorem merge_big (sa : small a m1 = true) (sb : small b m2 = true) (ha : Ord a) (hb : Ord b) : Big (merge a b) := fun x hx =>
 ⟨by have := key_len ((merge_ord ha hb).ok x hx).1; omega, (merge_mid sa sb ha hb).big (by omega) hx⟩
end
end Go.Pn.Bt
end
section
namespace Go.Pn.Bt
open Go Go.Pn Go.Pn.Jn
def first : List Ent → List Ent → Bool
 | _, [] => true
 | [], _ => false
 | x :: _, y :: _ => Op.bytesLess x.1 y.1
def second : List Ent → List Ent → Bool
 | [], _ => true
 | _, [] => false
 | x :: _, y :: _ => Op.bytesLess y.1 x.1
section
variable {la lb : List Ent}
theorem first_nil (h : lb.length = 0) : first la lb = true := by
 obtain rfl := List.eq_nil_of_length_eq_zero h
 cases la <;> rfl
theorem first_no (h : ¬ lb.length = 0) (h2 : la.length = 0) : first la lb = false := by
 obtain rfl := List.eq_nil_of_length_eq_zero h2
 cases lb with
 | nil => exact absurd rfl h
 | cons y lb => rfl
theorem second_nil (h : la.length = 0) : second la lb = true := by
 obtain rfl := List.eq_nil_of_length_eq_zero h
 cases lb <;> rfl
theorem first_pos (h : first la lb = true) (hn : 0 < la.length ∨ 0 < lb.length) : 0 < la.length := by
 cases la with
 | cons x la => simp
 | nil =>
   cases lb with
   | nil => simp at hn
   | cons y lb => cases h
theorem first_merge {x : Ent} (h : first (x :: la) lb = true) : merge (x :: la) lb = x :: merge la lb := by
 cases lb with
 | nil => exact mrg_a0
 | cons y lb => exact mrg_a h
theorem second_pos (h : first la lb = false) : 0 < lb.length := by
 cases lb with
 | cons y lb => simp
 | nil => cases la <;> cases h
theorem second_merge {y : Ent} (h : second la (y :: lb) = true) : merge la (y :: lb) = y :: merge la lb := by
 cases la with
 | nil => exact mrg_b0
 | cons x la => exact mrg_b h
theorem third_pos (h : first la lb = false) (h2 : second la lb = false) : 0 < la.length := by
 cases la with
 | cons x la => simp
 | nil => cases lb <;> cases h2
theorem third_eq {x y : Ent} (h : first (x :: la) (y :: lb) = false) (h2 : second (x :: la) (y :: lb) = false) : x.1 = y.1 := by
 rcases bl_total x.1 y.1 with q | q | q
 ·have q2 : Op.bytesLess x.1 y.1 = true := q
  have q3 : Op.bytesLess x.1 y.1 = false := h
  rw [q3] at q2
  cases q2
 ·exact q
 ·have q2 : Op.bytesLess y.1 x.1 = true := q
  have q3 : Op.bytesLess y.1 x.1 = false := h2
  rw [q3] at q2
  cases q2
end
end Go.Pn.Bt
end
