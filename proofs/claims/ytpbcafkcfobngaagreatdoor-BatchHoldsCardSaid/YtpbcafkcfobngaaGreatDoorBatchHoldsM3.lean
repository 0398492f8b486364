/-
 A slice cut to its length, with no more room. No condition.
-/
import Derived.Test.YtpbcafkcfobngaaGreatDoorBatchHoldsM2
section
namespace Go.Pn
section
variable {P : Program} {n : Nat} {ops rest : List Oper} {N : Val → World → Prop} {Z : List PanicEntry → World → Prop} {f : Val} {w : World}
 {d : Nat} {x : Operand} {t tr e : TypeId} {pos : String} {after : Array Edge}
theorem O.clip {s g m cap : Nat} {kk k2 : IntKind} {hi mx : Operand} (ht : P.underlying t = some (.slice e)) (hsz : ∀ w, (sizeOf e).run P w = .ok s w) (hx : ev n f x = .slice (some ⟨g, 0, none⟩) m cap) (hhi : ev n f hi = .int kk (m : Int)) (hmx : ev n f mx = .int k2 (m : Int)) (h1 : m ≤ cap)
 (h : O P n ops rest N Z (upd f d (.slice (some ⟨g, 0, none⟩) m m)) w) :
 O P n ops (ZO d (.slice t x .none (some hi) (some mx)) tr pos after :: rest) N Z f w := by
 refine O.val rfl rfl ?_ h
 have h3 : execOp (ev n f) (ZO d (.slice t x .none (some hi) (some mx)) tr pos after) = (do pure (.value (← Instr.sliceAt t (ev n f x) .none (some (ev n f hi)) (some (ev n f mx))))) := rfl
 have hb : ∀ (k9 : IntKind) (c9 : Nat) (e9), m ≤ c9 → (Instr.sliceBound (.int k9 (m : Int)) c9 e9).run P w = .ok m w := fun k9 c9 e9 h9 => by
  have : (m : Int) ≤ c9 := by omega
  simp [Instr.sliceBound, asIntOf, this]
 have h4 : (Instr.sliceAt t (.slice (some ⟨g, 0, none⟩) m cap) .none (some (.int kk (m : Int))) (some (.int k2 (m : Int)))).run P w = .ok (.slice (some ⟨g, 0, none⟩) m m) w := by
  unfold Instr.sliceAt
  rw [Sem.run_bind, run_underlying ht, Result.andThen_ok]
  simp only []
  unfold Instr.slice
  rw [Sem.run_bind, run_underlying ht, Result.andThen_ok]
  simp [Instr.sliceBounds, hsz, hb _ _ _ h1, hb _ _ _ (Nat.le_refl m), Addr.add_none]
 rw [h3, Sem.run_bind, hx, hhi, hmx, h4]
 rfl
theorem O.clipNil {s : Nat} {kk k2 : IntKind} {hi mx : Operand} (ht : P.underlying t = some (.slice e)) (hsz : ∀ w, (sizeOf e).run P w = .ok s w) (hx : ev n f x = .slice none 0 0) (hhi : ev n f hi = .int kk 0) (hmx : ev n f mx = .int k2 0)
 (h : O P n ops rest N Z (upd f d (.slice none 0 0)) w) :
 O P n ops (ZO d (.slice t x .none (some hi) (some mx)) tr pos after :: rest) N Z f w := by
 refine O.val rfl rfl ?_ h
 have h3 : execOp (ev n f) (ZO d (.slice t x .none (some hi) (some mx)) tr pos after) = (do pure (.value (← Instr.sliceAt t (ev n f x) .none (some (ev n f hi)) (some (ev n f mx))))) := rfl
 have hb : ∀ (k9 : IntKind) (e9), (Instr.sliceBound (.int k9 0) 0 e9).run P w = .ok 0 w := fun k9 e9 => by simp [Instr.sliceBound, asIntOf]
 have h4 : (Instr.sliceAt t (.slice none 0 0) .none (some (.int kk 0)) (some (.int k2 0))).run P w = .ok (.slice none 0 0) w := by
  unfold Instr.sliceAt
  rw [Sem.run_bind, run_underlying ht, Result.andThen_ok]
  simp only []
  unfold Instr.slice
  rw [Sem.run_bind, run_underlying ht, Result.andThen_ok]
  simp [Instr.sliceBounds, hsz, hb]
 rw [h3, Sem.run_bind, hx, hhi, hmx, h4]
 rfl
end
theorem OwnF.clipSl {α : Type} {G : Flat α} {ty : TypeId} {B : Nat} {w : World} {g n cap : Nat} {xs : List α} (h : OwnF G ty B w (.slice (some ⟨g, 0, none⟩) n cap) xs) (hn : xs.length = n) : Sl G.enc w (fun k => k = g) (.slice (some ⟨g, 0, none⟩) n n) xs := by
 subst hn
 obtain ⟨h0, hm⟩ := h
 rcases h0.2 with ⟨h1, _⟩ | ⟨g', cap', cur, h1, hb, hg, hle, hc, hsz, ht⟩
 ·cases h1
 ·have e1 : g = g' := by cases h1; rfl
  have e2 : cap = cap' := by cases h1; rfl
  subst e1; subst e2
  have h8 : OwnF G ty B w (.slice (some ⟨g, 0, none⟩) xs.length cap) xs := ⟨h0, hm⟩
  have h9 := h8.sl
  obtain ⟨_, h9⟩ := h9
  rcases h9 with ⟨a, q1, q2⟩ | ⟨b, off, cap2, cur2, ty2, fr2, q1, q2, q3, q4, q5, q6, q7⟩
  ·have hx : xs.length = 0 := by rw [q2]; rfl
   exact ⟨hm, .inl ⟨some ⟨g, 0, none⟩, by rw [hx], q2⟩⟩
  ·cases q1
   exact ⟨hm, .inr ⟨g, 0, xs.length, cur2, ty2, fr2, rfl, rfl, q3, Nat.le_refl _, hm, fun hp => by have := q6 hp; have := Nat.mul_le_mul_right G.enc.sz hle; omega, q7⟩⟩
def Clip (v' v : Value) : Prop := v = v' ∨ ∃ g n cap, v' = .slice (some ⟨g, 0, none⟩) n cap ∧ v = .slice (some ⟨g, 0, none⟩) n n
theorem OwnF.clips {α : Type} {G : Flat α} {ty : TypeId} {B : Nat} {w : World} {v' v : Value} {xs : List α} (h : OwnF G ty B w v' xs) (hc : Clip v' v) : Sl G.enc w (bk v') v xs := by
 rcases hc with rfl | ⟨g, n, cap, rfl, rfl⟩
 ·exact h.sl
 ·have hn : xs.length = n := by
   rcases h.1.2 with ⟨h1, _⟩ | ⟨g', cap', cur, h1, _⟩
   ·cases h1
   ·cases h1; rfl
  exact (h.clipSl hn).weak fun k hk => hk
end Go.Pn
end
section
namespace Go.Pn.Bt
open Go Go.Pn Go.Pn.Jn
section
variable {l : List Ent} {k : Nat} {gs : List (List Ent)}
end
end Go.Pn.Bt
end
section
namespace Go.Pn.Bt
open Go Go.Pn Go.Pn.Jn
def Mid (n : Nat) (l : List Ent) : Prop := ∀ x ∈ l, x.2.1.1.length ≤ n ∧ x.2.1.2.length ≤ n ∧ x.2.2.length ≤ 200000 ∧ ∀ y ∈ x.2.2, y.1.length ≤ 1000000 ∧ y.2.length ≤ 400000
theorem Mid.sub {n : Nat} {l l' : List Ent} (h : Mid n l) (hs : ∀ x ∈ l', x ∈ l) : Mid n l' := fun x hx => h x (hs x hx)
theorem Mid.big {n : Nat} {l : List Ent} (h : Mid n l) (hn : n ≤ 1000000) {x : Ent} (hx : x ∈ l) : Cn.big x.2 := by
 obtain ⟨h1, h2, h3, h4⟩ := h x hx
 exact ⟨by omega, by omega, by omega, fun y hy => by have := h4 y hy; omega⟩
theorem Mid.tall {x : Ent} (h : ∀ y ∈ x.2.2, y.1.length ≤ 1000000 ∧ y.2.length ≤ 400000) : ∀ y ∈ x.2.2, y.1.length ≤ 1000000 ∧ y.2.length ≤ 1000000 := fun y hy => by have := h y hy; omega
theorem join_sizes (a b : Cart) : (join a b).1.1.length ≤ a.1.1.length + b.1.1.length + (a.1.2.length + b.1.2.length) ∧ (join a b).1.2.length ≤ a.1.2.length + b.1.2.length ∧ (join a b).2.length ≤ a.2.length + b.2.length := ⟨(cunion_len a.1 b.1).1, (cunion_len a.1 b.1).2, jitems_len a b⟩
theorem join_names {a b : Cart} (ga : GoodC a) (gb : GoodC b) : ∀ y ∈ (join a b).2, y.1.length ≤ 64 := fun y hy => ((Cn.validQ (good_iff.2 (join_good ga gb))).2 y hy).1
theorem join_big {x y : Ent} {n : Nat} (hx : x.2.1.1.length ≤ n ∧ x.2.1.2.length ≤ n ∧ x.2.2.length ≤ 200000 ∧ ∀ y ∈ x.2.2, y.1.length ≤ 1000000 ∧ y.2.length ≤ 400000) (hy : y.2.1.1.length ≤ n ∧ y.2.1.2.length ≤ n ∧ y.2.2.length ≤ 200000 ∧ ∀ z ∈ y.2.2, z.1.length ≤ 1000000 ∧ z.2.length ≤ 400000) (hn : n ≤ 100000) (gx : GoodC x.2) (gy : GoodC y.2) : Cn.big (join x.2 y.2) := by
 obtain ⟨h1, h2, h3⟩ := join_sizes x.2 y.2
 have h4 := join_marks (fun z hz => (hx.2.2.2 z hz).2) (fun z hz => (hy.2.2.2 z hz).2)
 have h5 := join_names gx gy
 exact ⟨by omega, by omega, by omega, fun z hz => by have := h4 z hz; have := h5 z hz; omega⟩
section
variable {x y : Ent} {la lb : List Ent}
theorem mrg_a (h : BL x.1 y.1) : merge (x :: la) (y :: lb) = x :: merge la (y :: lb) := merge_first (.inr ⟨y, lb, rfl, h⟩)
theorem mrg_b (h : BL y.1 x.1) : merge (x :: la) (y :: lb) = y :: merge (x :: la) lb := merge_second (.inr ⟨x, la, rfl, h⟩)
theorem mrg_ab (h : x.1 = y.1) : merge (x :: la) (y :: lb) = (x.1, join x.2 y.2) :: merge la lb := merge_both (by rw [h]; exact bl_irrefl _) (by rw [h]; exact bl_irrefl _)
theorem mrg_a0 : merge (x :: la) [] = x :: merge la [] := merge_first (.inl rfl)
theorem mrg_b0 : merge [] (y :: lb) = y :: merge [] lb := merge_second (.inl rfl)
end
end Go.Pn.Bt
end
section
namespace Go.Pn
def ent0 (k : List UInt8) : EntR := (k, ((none, 0, 0), (none, 0, 0)), (none, 0, 0))
def cart0 : CartT := (([], []), [])
theorem CartAt.zero {w : World} {F : Nat → Prop} : CartAt w F (((none, 0, 0), (none, 0, 0)), (none, 0, 0)) cart0 := ⟨Sl.nil _ _ _, Sl.nil _ _ _, Sl.nil _ _ _⟩
theorem EntL.one0 {w : World} {F : Nat → Prop} (k : List UInt8) : EntL w F [ent0 k] [(k, cart0)] := EntL.snoc (raw := []) (l := []) EntL.nil rfl CartAt.zero
theorem EntL.two0 {w : World} {F : Nat → Prop} (k : List UInt8) : EntL w F [ent0 k, ent0 k] [(k, cart0), (k, cart0)] := (EntL.one0 k).snoc (a := ent0 k) (x := (k, cart0)) rfl CartAt.zero
section
variable {te td ti tm : TypeId} {w : World} {lo hi : Nat} {u v : Value} {l : List EntT}
theorem SlE.clips (h : SlE te td ti tm w lo hi u l) (hc : Clip u v) : ∃ raw, Sl entF.enc w (fun j => lo ≤ j ∧ j < hi) v raw ∧ EntL w (fun j => lo ≤ j ∧ j < hi) raw l := by
 obtain ⟨raw, h1, h2⟩ := h
 exact ⟨raw, (h1.1.clips hc).weak h1.2, h2.ents.weak fun _ hk => hk.2⟩
end
end Go.Pn
end
section
namespace Go.Pn.Bt
open Go Go.Pn Go.Pn.Jn
def MRel (l l2 l3 : List Ent) (e : Int) : Prop := (ordered l = true ∧ ordered l2 = true ∧ e = 0 ∧ l3 = merge l l2) ∨ ((ordered l = false ∨ ordered l2 = false) ∧ e = 2 ∧ l3 = [])
theorem mrel_uniq {l l2 l3 l4 : List Ent} {e e' : Int} (h : MRel l l2 l3 e) (h' : MRel l l2 l4 e') : l3 = l4 ∧ e = e' := by
 rcases h with ⟨h1, h2, h3, h4⟩ | ⟨h1, h3, h4⟩ <;> rcases h' with ⟨k1, k2, k3, k4⟩ | ⟨k1, k3, k4⟩
 ·exact ⟨h4.trans k4.symm, h3.trans k3.symm⟩
 ·exfalso
  rcases k1 with q | q
  ·rw [h1] at q; cases q
  ·rw [h2] at q; cases q
 ·exfalso
  rcases h1 with q | q
  ·rw [k1] at q; cases q
  ·rw [k2] at q; cases q
 ·exact ⟨h4.trans k4.symm, h3.trans k3.symm⟩
def kx : List UInt8 := [107]
def ex1 : List Ent := [(kx, cart0)]
def ex2 : List Ent := [(kx, cart0), (kx, cart0)]
theorem valid_nil : valid [] = true := rfl
theorem valid_ex1 : valid ex1 = true := by decide +kernel
theorem ordered_ex1 : ordered ex1 = true := by decide +kernel
theorem ordered_ex2 : ordered ex2 = false := by decide +kernel
theorem valid_ex2 : valid ex2 = false := by decide +kernel
theorem big_ex {l : List Ent} (h : ∀ x ∈ l, x = (kx, cart0)) : Big l := fun x hx => by rw [h x hx]; exact ⟨by decide, by decide, by decide, by decide, fun y hy => by cases hy⟩
theorem mid_ex {l : List Ent} {n : Nat} (h : ∀ x ∈ l, x = (kx, cart0)) : Mid n l := fun x hx => by rw [h x hx]; exact ⟨Nat.zero_le _, Nat.zero_le _, Nat.zero_le _, fun y hy => by cases hy⟩
theorem ex1_all : ∀ x ∈ ex1, x = (kx, cart0) := fun _ hx => List.mem_singleton.1 hx
theorem ex2_all : ∀ x ∈ ex2, x = (kx, cart0) := fun _ hx => by rcases List.mem_cons.1 hx with h | h; exact h; exact List.mem_singleton.1 h
theorem ent_kx : (entB (kx, cart0)).length ≤ 8000000 := by
 unfold kx entB Cn.strB
 rw [show Cn.bytes cart0 = [0, 0, 0] from Cn.bytes_nil0, List.length_singleton, Cn.num_lt (by decide)]
 decide
theorem body_nil : body [] = [0] := by unfold body; rw [List.length_nil, Cn.num_lt (by decide)]; rfl
theorem body_ex1 : body ex1 = [1, 1, 107, 0, 0, 0] := by
 unfold body ex1 kx entB Cn.strB
 simp only [List.length_cons, List.length_nil, List.flatMap_cons, List.flatMap_nil, List.append_nil]
 rw [Cn.num_lt (by decide), show Cn.bytes cart0 = [0, 0, 0] from Cn.bytes_nil0]
 rfl
theorem enc_nil_len : (enc []).length = 5 := by rw [enc_len, body_nil]; rfl
theorem enc_ex1_len : (enc ex1).length = 10 := by rw [enc_len, body_ex1]; rfl
theorem enc_ex1_six : (enc ex1).take 6 = [1, 1, 107, 0, 0, 0] := by
 unfold enc end4
 rw [body_ex1]
 rfl
theorem split_ex1 : split ex1 = [ex1] := by unfold split ex1; rw [splitO_first, splitO_end (by simp)]
theorem merge_ex1_nil : merge ex1 [] = ex1 := by unfold ex1; rw [mrg_a0, merge_nil]
theorem merge_ex1 : merge ex1 ex1 = ex1 := merge_self (ord_iff.1 ordered_ex1)
theorem dec_nil : DecRes [] [] 12 := dec_short (by decide)
theorem dec_five : DecRes [0, 0, 0, 0, 0] [] 12 := by
 refine dec_sum fun e => ?_
 have h : sumOf [0] = 0#32 := by
  have q : ([0, 0, 0, 0, 0] : List UInt8) = end4 [0] := e
  unfold end4 at q
  have q2 : sum4 (sumOf [0]) = [0, 0, 0, 0] := by simpa using q.symm
  rw [← sumU_sum4 (sumOf [0]), q2]
  rfl
 revert h
 decide +kernel
end Go.Pn.Bt
end
section
namespace Go.Pn.Bt
open Go Go.Pn Go.Pn.Jn
section
variable {l : List Ent} {most : Int}
theorem small_ent (h : small l most = true) : ∀ x ∈ l, (entB x).length ≤ 25110 := fun x hx => ent_small ((small_iff h).2 x hx).1 ((small_iff h).2 x hx).2
theorem small_flat (h : small l most = true) : (l.flatMap entB).length ≤ 25110 * l.length := Cn.flatMap_le (small_ent h)
theorem small_len (h : small l most = true) : (l.length : Int) ≤ most := (small_iff h).1
theorem small_valid (h : small l most = true) (hm : most ≤ 1024) : valid l = ordered l := by
 unfold valid
 rw [decide_eq_true (by have := small_len h; omega), Bool.true_and]
theorem small_mid (h : small l most = true) : Mid 20000 l := fun x hx => by
 obtain ⟨h1, h2, h3, h4⟩ := Cn.small_iff ((small_iff h).2 x hx).2
 exact ⟨by omega, by omega, by omega, fun y hy => by have := h4 y hy; omega⟩
theorem enc_le (h : small l most = true) : (enc l).length ≤ 25110 * l.length + 14 + l.length := by
 have h1 := small_flat h
 have h2 := num_le_len l.length
 rw [enc_len, body_len]
 omega
where
 num_le_len (n : Nat) : (Cn.num n).length ≤ 10 + n := by
  by_cases h : n < 2 ^ 64
  ·have := Cn.num_le n h; omega
  ·have key : ∀ m : Nat, (Cn.num m).length ≤ 1 + m := by
    intro m
    induction m using Nat.strongRecOn with
    | ind m ih =>
      by_cases q : m < 128
      ·rw [Cn.num_lt q]; simp
      ·rw [Cn.num_ge q, List.length_cons]
       have := ih (m / 128) (by omega)
       omega
   have := key n
   omega
end
end Go.Pn.Bt
end
section
namespace Go.Pn.Bt
open Go Go.Pn Go.Pn.Jn
theorem merge_mem {a b : List Ent} (ha : Ord a) (hb : Ord b) {x : Ent} (hx : x ∈ merge a b) : x ∈ a ∨ x ∈ b ∨ ∃ c d, (x.1, c) ∈ a ∧ (x.1, d) ∈ b ∧ x.2 = join c d := by
 have h := get_mem (merge_ord ha hb) hx
 rw [merge_get ha hb] at h
 cases hc : get a x.1 with
 | none =>
   cases hd : get b x.1 with
   | none => rw [hc, hd] at h; cases h
   | some d =>
     rw [hc, hd] at h
     have e : d = x.2 := Option.some.inj h
     subst e
     exact .inr (.inl (mem_get hd))
 | some c =>
   cases hd : get b x.1 with
   | none =>
     rw [hc, hd] at h
     have e : c = x.2 := Option.some.inj h
     subst e
     exact .inl (mem_get hc)
   | some d =>
     rw [hc, hd] at h
     exact .inr (.inr ⟨c, d, mem_get hc, mem_get hd, (Option.some.inj h).symm⟩)
section
variable {a b : List Ent} {m1 m2 : Int}
theorem merge_mid (sa : small a m1 = true) (sb : small b m2 = true) (ha : Ord a) (hb : Ord b) : Mid 20000 (merge a b) := fun x hx => by
 rcases merge_mem ha hb hx with h | h | ⟨c, d, h1, h2, h3⟩
 ·exact small_mid sa x h
 ·exact small_mid sb x h
 ·obtain ⟨p1, p2, p3, p4⟩ := Cn.small_iff ((small_iff sa).2 _ h1).2
  obtain ⟨q1, q2, q3, q4⟩ := Cn.small_iff ((small_iff sb).2 _ h2).2
  (try dsimp only at p1 p2 p3 q1 q2 q3)
  obtain ⟨r1, r2, r3⟩ := join_sizes c d
  have r4 := join_marks (a := c) (b := d) (n := 20) (fun z hz => (p4 z hz).1) (fun z hz => (q4 z hz).1)
  have r5 := join_names (ha.ok _ h1).2 (hb.ok _ h2).2
  rw [h3]
  exact ⟨by omega, by omega, by omega, fun z hz => by have := r4 z hz; have := r5 z hz; omega⟩
theorem merge_big (sa : small a m1 = true) (sb : small b m2 = true) (ha : Ord a) (hb : Ord b) : Big (merge a b) := fun x hx =>
 ⟨by have := key_len ((merge_ord ha hb).ok x hx).1; omega, (merge_mid sa sb ha hb).big (by omega) hx⟩
end
theorem enc_five (l : List Ent) : 5 ≤ (enc l).length := by
 have := Cn.num_len l.length
 rw [enc_len, body_len]
 omega
theorem flat_next {gs : List (List Ent)} {k : Nat} (h : k < gs.length) : (gs.take (k + 1)).flatten = (gs.take k).flatten ++ gs[k] := by
 rw [List.take_succ_eq_append_getElem h, List.flatten_append]
 simp
theorem flat_ge {gs : List (List Ent)} (h : ∀ g ∈ gs, g ≠ []) : gs.length ≤ gs.flatten.length := by
 induction gs with
 | nil => exact Nat.le_refl _
 | cons g gs ih =>
   have h1 := ih fun x hx => h x (List.mem_cons_of_mem _ hx)
   have h2 := List.length_pos_iff.2 (h g List.mem_cons_self)
   rw [List.flatten_cons, List.length_append, List.length_cons]
   omega
theorem flat_le {gs : List (List Ent)} (k : Nat) : ((gs.take k).flatten).length ≤ gs.flatten.length := by
 have h : gs.flatten = (gs.take k).flatten ++ (gs.drop k).flatten := by rw [← List.flatten_append, List.take_append_drop]
 rw [h, List.length_append]
 omega
end Go.Pn.Bt
end
section
namespace Go.Pn
section
variable {P : Program} {n : Nat} {ops rest : List Oper} {N : Val → World → Prop} {Z : List PanicEntry → World → Prop} {f : Val} {w : World}
 {d : Nat} {x y : Operand} {t t' tr : TypeId} {pos : String} {after : Array Edge}
theorem O.maxB {a b : BitVec 8} (hx : ev n f x = .int .u8 (a.toNat : Int)) (hy : ev n f y = .int .u8 (b.toNat : Int)) (h : O P n ops rest N Z (upd f d (.int .u8 ((if a < b then b else a).toNat : Int))) w) :
 O P n ops (ZO d (.call { callee := .builtin .max, args := [x, y].toArray, argTypes := [t, t'].toArray }) tr pos after :: rest) N Z f w := by
 refine O.val rfl rfl ?_ h
 have e : (if (a.toNat : Int) < (b.toNat : Int) then (b.toNat : Int) else (a.toNat : Int)) = ((if a < b then b else a).toNat : Int) := by
  by_cases q : a < b
  ·rw [if_pos q, if_pos (by have := BitVec.lt_def.1 q; omega)]
  ·rw [if_neg q, if_neg (by have := mt BitVec.lt_def.2 q; omega)]
 have h3 : (execOp (ev n f) (ZO d (.call { callee := .builtin .max, args := [x, y].toArray, argTypes := [t, t'].toArray }) tr pos after)).run P w = ((Builtin.max_ #[t, t'] tr #[ev n f x, ev n f y]).run P w).andThen (fun v w => .ok (.value v) w) := by
  simp [execOp, resolve, invoke, builtin]
 rw [h3, hx, hy]
 have h4 : (Builtin.max_ #[t, t'] tr #[.int .u8 (a.toNat : Int), .int .u8 (b.toNat : Int)]).run P w = .ok (.int .u8 ((if a < b then b else a).toNat : Int)) w := by
  rw [← e]
  simp [Builtin.max_, Builtin.max2]
 rw [h4]
 rfl
end
theorem add_max_ne (y : UInt8) (x : BitVec 8) : (⟨y.toBitVec + (if 1#8 < x then x else 1#8)⟩ : UInt8) ≠ y := fun h => by
 have h2 : y.toBitVec + (if 1#8 < x then x else 1#8) = y.toBitVec := congrArg UInt8.toBitVec h
 have h3 : (if 1#8 < x then x else 1#8) = 0#8 := by
  have := congrArg (· - y.toBitVec) h2
  simp only [BitVec.sub_self] at this
  rw [← this, BitVec.add_comm, BitVec.add_sub_cancel]
 by_cases q : 1#8 < x
 ·rw [if_pos q] at h3
  have := BitVec.lt_def.1 q
  rw [h3] at this
  simp at this
 ·rw [if_neg q] at h3
  exact absurd h3 (by decide)
end Go.Pn
end
