/-
 PLAIN LAWS OF BATCHES, 15: small entries have short batches. Of no program.
-/
import Derived.Test.YtpbcafkcfobngaaGreatDoorCards
import Derived.Test.YtpbcafkcfobngaaGreatDoorTie
import Derived.Test.YtpbcafkcfobngaaGreatDoorBatchSplitsM2
section
namespace Go.Pn.Bt
open Go Go.Pn Go.Pn.Jn
section
variable {l : List Ent} {most : Int}
theorem small_ent (h : small l most = true) : ∀ x ∈ l, (entB x).length ≤ 25110 := fun x hx => ent_small ((small_iff h).2 x hx).1 ((small_iff h).2 x hx).2
theorem small_flat (h : small l most = true) : (l.flatMap entB).length ≤ 25110 * l.length := Cn.flatMap_le (small_ent h)
theorem small_len (h : small l most = true) : (l.length : Int) ≤ most := (small_iff h).1
theorem small_valid (h : small l most = true) (hm : most ≤ 1024) : valid l = ordered l := by
 unfold valid
 rw [decide_eq_true (by have := small_len h; omega), Bool.true_and]
theorem small_mid (h : small l most = true) : Mid 20000 l := fun x hx => by
 obtain ⟨h1, h2, h3, h4⟩ := Cn.small_iff ((small_iff h).2 x hx).2
 exact ⟨by omega, by omega, by omega, fun y hy => by have := h4 y hy; omega⟩
theorem enc_le (h : small l most = true) : (enc l).length ≤ 25110 * l.length + 14 + l.length := by
 have h1 := small_flat h
 have h2 := num_le_len l.length
 rw [enc_len, body_len]
 omega
where
 num_le_len (n : Nat) : (Cn.num n).length ≤ 10 + n := by
  by_cases h : n < 2 ^ 64
  ·have := Cn.num_le n h; omega
  ·have key : ∀ m : Nat, (Cn.num m).length ≤ 1 + m := by
    intro m
    induction m using Nat.strongRecOn with
    | ind m ih =>
      by_cases q : m < 128
      ·rw [Cn.num_lt q]; simp
      ·rw [Cn.num_ge q, List.length_cons]
       have := ih (m / 128) (by omega)
       omega
   have := key n
   omega
end
end Go.Pn.Bt
end
section
namespace Go.Pn.Bt
open Go Go.Pn Go.Pn.Jn
def Grt (c : Cart) : Prop := c.1.1.length ≤ 1 ∧ c.1.2.length = 0 ∧ c.2.length ≤ 1000 ∧ ∀ x ∈ c.2, x.1.length = 64 ∧ x.2.length = 1
theorem Grt.big {c : Cart} (h : Grt c) : Cn.big c := by
 obtain ⟨h1, h2, h3, h4⟩ := h
 exact ⟨by omega, by omega, by omega, fun x hx => by have := h4 x hx; omega⟩
theorem Grt.bytes {c : Cart} (h : Grt c) : (Cn.bytes c).length ≤ 200000 := by
 obtain ⟨h1, h2, h3, h4⟩ := h
 have g1 := Cn.flat_bound (f := Cn.dotB) (b := 20) (n := 1) (l := c.1.1) (fun x _ => Cn.dotB_le x) h1
 have g2 := Cn.flat_bound (f := Cn.dotB) (b := 20) (n := 0) (l := c.1.2) (fun x _ => Cn.dotB_le x) (by omega)
 have g3 : ∀ x ∈ c.2, (Cn.itemB x).length ≤ 124 := by
  intro x hx
  obtain ⟨i1, i2⟩ := h4 x hx
  have g := Cn.flat_bound (f := Cn.markB) (b := 40) (n := 1) (l := x.2) (fun m _ => Cn.markB_le m) (by omega)
  have n1 := Cn.num_le x.1.length (by omega)
  have n2 := Cn.num_le x.2.length (by omega)
  unfold Cn.itemB Cn.strB
  simp only [List.length_append]
  omega
 have g4 := Cn.flat_bound (f := Cn.itemB) (b := 124) (n := 1000) (l := c.2) g3 h3
 have n1 := Cn.num_le c.1.1.length (by omega)
 have n2 := Cn.num_le c.1.2.length (by omega)
 have n3 := Cn.num_le c.2.length (by omega)
 unfold Cn.bytes Cn.ctxB Cn.dotsB Cn.itemsB
 simp only [List.length_append]
 omega
def Mixd (l : List Ent) : Prop := ∀ x ∈ l, x.1.length ≤ 100 ∧ (Cn.small x.2 = true ∨ Grt x.2)
theorem Mixd.of {l : List Ent} {most : Int} (h : small l most = true) : Mixd l := fun x hx => ⟨((small_iff h).2 x hx).1, .inl ((small_iff h).2 x hx).2⟩
theorem Mixd.set {l : List Ent} (h : Mixd l) {i : Nat} (hi : i < l.length) {c : Cart} (hc : Grt c) : Mixd (l.set i (l[i].1, c)) := fun x hx => by
 rcases List.mem_or_eq_of_mem_set hx with q | q
 ·exact h x q
 ·rw [q]
  exact ⟨(h _ (List.getElem_mem hi)).1, .inr hc⟩
theorem Mixd.big {l : List Ent} (h : Mixd l) : Big l := fun x hx => by
 obtain ⟨h1, h2⟩ := h x hx
 rcases h2 with h2 | h2
 ·exact ⟨by omega, small_big h2⟩
 ·exact ⟨by omega, h2.big⟩
theorem Mixd.ent {l : List Ent} (h : Mixd l) : ∀ x ∈ l, (entB x).length ≤ 200110 := fun x hx => by
 obtain ⟨h1, h2⟩ := h x hx
 have hb : (Cn.bytes x.2).length ≤ 200000 := by
  rcases h2 with h2 | h2
  ·have := Cn.bytes_small h2; omega
  ·exact h2.bytes
 have := Cn.num_le x.1.length (by omega)
 unfold entB Cn.strB
 simp only [List.length_append]
 omega
theorem Mixd.flat {l : List Ent} (h : Mixd l) : (l.flatMap entB).length ≤ 200110 * l.length := Cn.flatMap_le h.ent
end Go.Pn.Bt
end
section
namespace Go.Pn
open Go.RowKit
theorem Flat.setN {α : Type} (G : Flat α) {off : Nat} {z : α} {vs : List Value} : ∀ (xs : List α) (i : Nat) (h : i < xs.length), off + vs.length ≤ G.sz → G.e z = (G.e xs[i]).take off ++ vs ++ (G.e xs[i]).drop (off + vs.length) →
 (xs.flatMap G.e).take (i * G.sz + off) ++ vs ++ (xs.flatMap G.e).drop (i * G.sz + off + vs.length) = (xs.set i z).flatMap G.e
 | [], i, h, _, _ => by simp at h
 | x :: xs, 0, h, ho, hz => by
   have hl := G.len x
   simp only [List.getElem_cons_zero] at hz
   rw [List.flatMap_cons, List.set_cons_zero, List.flatMap_cons, Nat.zero_mul, Nat.zero_add, hz, List.take_append_of_le_length (by omega), List.drop_append_of_le_length (by omega)]
   simp only [List.append_assoc]
 | x :: xs, i + 1, h, ho, hz => by
   have hl := G.len x
   simp only [List.getElem_cons_succ] at hz
   have ih := Flat.setN G (off := off) (z := z) (vs := vs) xs i (by simpa using h) ho hz
   have e1 : (i + 1) * G.sz + off = (G.e x).length + (i * G.sz + off) := by rw [Nat.add_mul]; omega
   rw [List.flatMap_cons, List.set_cons_succ, List.flatMap_cons, ← ih, e1, List.take_length_add_append, show (G.e x).length + (i * G.sz + off) + vs.length = (G.e x).length + (i * G.sz + off + vs.length) by omega, List.drop_length_add_append]
   simp only [List.append_assoc]
theorem OwnF.putN {α : Type} {G : Flat α} {ty : TypeId} {B : Nat} {w : World} {g cap : Nat} {xs : List α} (P : Program) {i off : Nat} {z : α} {vs : List Value} (h : OwnF G ty B w (.slice (some ⟨g, 0, none⟩) xs.length cap) xs) (hi : i < xs.length) (hof : off + vs.length ≤ G.sz) (h1 : ∀ v ∈ vs, v.oneCell' = true) (hz : G.e z = (G.e xs[i]).take off ++ vs ++ (G.e xs[i]).drop (off + vs.length)) :
 ∃ w', (storeCells ⟨g, i * G.sz + off, none⟩ vs 0).run P w = .ok () w' ∧ OwnF G ty B w' (.slice (some ⟨g, 0, none⟩) xs.length cap) (xs.set i z) ∧ Ext (fun k => k = g) w w' ∧ w'.heap.size = w.heap.size := by
 obtain ⟨h0, hm⟩ := h
 rcases h0.2 with ⟨q1, _⟩ | ⟨g', cap', cur, q1, hb, hg, hn, hc, hsz, ht⟩
 ·cases q1
 ·have e1 : g = g' := by cases q1; rfl
  have e2 : cap = cap' := by cases q1; rfl
  subst e1; subst e2
  have hle : (i + 1) * G.sz ≤ xs.length * G.sz := Nat.mul_le_mul_right _ hi
  have hle2 : xs.length * G.sz ≤ cap * G.sz := Nat.mul_le_mul_right _ hn
  have hmul : (i + 1) * G.sz = i * G.sz + G.sz := by rw [Nat.add_mul, Nat.one_mul]
  have h00 : Own0 w g ty cur.toList := by simpa [Own0] using hg
  obtain ⟨w', hr, ho, he, hs⟩ := run_storeCells_own0 (P := P) vs (i * G.sz + off) 0 cur.toList w h00 (by simp; omega) h1
  rw [Nat.add_zero] at ho
  refine ⟨w', hr, ⟨⟨by rw [G.length], .inr ⟨g, cap, (cur.toList.take (i * G.sz + off) ++ vs ++ cur.toList.drop (i * G.sz + off + vs.length)).toArray, by rw [List.length_set], hb, ho, by rw [List.length_set]; exact hn, hc, ?_, ?_⟩⟩, by rw [List.length_set]; exact hm⟩, he, hs⟩
  ·simp
   omega
  ·rw [List.length_set, ← G.setN xs i hi hof hz, ← ht]
   simp only []
   have hAB : (cur.toList.take (i * G.sz + off) ++ vs).length = i * G.sz + off + vs.length := by
    rw [List.length_append, List.length_take, Array.length_toList, Nat.min_eq_left (by omega)]
   rw [List.take_append, List.take_of_length_le (by rw [hAB]; omega), hAB, List.take_take, Nat.min_eq_left (by omega), ← List.drop_take]
section
variable {P : Program} {n : Nat} {ops rest : List Oper} {N : Val → World → Prop} {Z : List PanicEntry → World → Prop} {f : Val} {w : World}
 {x y : Operand} {t tr ty : TypeId} {pos : String} {after : Array Edge} {α : Type}
theorem O.storeP {G : Flat α} {B g cap i off k s : Nat} {xs : List α} {vs : List Value} (z : α) (hk : k = i * G.sz + off) (hsz : ∀ w, (sizeOf t).run P w = .ok s w) (hl : vs.length = s) (hx : ev n f x = .pointer (some ⟨g, k, none⟩)) (hy : ev n f y = .agg vs.toArray) (h1 : ∀ v ∈ vs, v.oneCell' = true)
 (ho : OwnF G ty B w (.slice (some ⟨g, 0, none⟩) xs.length cap) xs) (hi : i < xs.length) (hof : off + vs.length ≤ G.sz) (hz : G.e z = (G.e xs[i]).take off ++ vs ++ (G.e xs[i]).drop (off + vs.length))
 (h : ∀ w', OwnF G ty B w' (.slice (some ⟨g, 0, none⟩) xs.length cap) (xs.set i z) → Ext (fun k => k = g) w w' → w'.heap.size = w.heap.size → O P n ops rest N Z f w') :
 O P n ops ({ dst := .none, op := .store t x y, type := tr, pos := pos, after := after, guard := .none } :: rest) N Z f w := by
 subst hk
 subst hl
 obtain ⟨w', hr, ho', he, hs⟩ := ho.putN P hi hof h1 hz
 refine O.act rfl rfl ?_ (h w' ho' he hs)
 have h3 : execOp (ev n f) { dst := .none, op := .store t x y, type := tr, pos := pos, after := after, guard := .none } = (do Instr.storeAt t (ev n f x) (ev n f y); pure .skip) := rfl
 rw [h3, Sem.run_bind, hx, hy]
 have h4 : (Instr.storeAt t (.pointer (some ⟨g, i * G.sz + off, none⟩)) (.agg vs.toArray)).run P w = .ok () w' := by
  simp [Instr.storeAt, Instr.sureAddr, storeVar, hsz, Value.cells, hr]
 rw [h4]
 rfl
end
theorem EntL.set {w : World} {F : Nat → Prop} {raw : List EntR} {l : List EntT} {a : EntR} {x : EntT} {k : Nat} (h : EntL w F raw l) (hn : a.1 = x.1) (hm : CartAt w F a.2 x.2) : EntL w F (raw.set k a) (l.set k x) := by
 refine ⟨by rw [List.length_set, List.length_set]; exact h.1, fun i h1 h2 => ?_⟩
 rw [List.length_set] at h1 h2
 rw [List.getElem_set, List.getElem_set]
 split
 ·exact ⟨hn, hm⟩
 ·exact h.2 i h1 h2
end Go.Pn
end
