/-
 Entries that may be written, as they are read. No condition.
-/
import Derived.Test.YtpbcafkcfobngaaGreatDoorBatchEncodesM2
section
namespace Go.Pn
theorem SlE.raws {te td ti tm : TypeId} {w : World} {lo hi : Nat} {v : Value} {l : List EntT} (h : SlE te td ti tm w lo hi v l) : ∃ raw, Sl entF.enc w (fun j => lo ≤ j ∧ j < hi) v raw ∧ EntL w (fun j => lo ≤ j ∧ j < hi) raw l := by
 obtain ⟨raw, h1, h2⟩ := h
 exact ⟨raw, h1.sl, h2.ents.weak fun _ hk => hk.2⟩
theorem EntL.sub {w : World} {F : Nat → Prop} {raw : List EntR} {l : List EntT} (h : EntL w F raw l) (i j : Nat) : EntL w F ((raw.take j).drop i) ((l.take j).drop i) := by
 refine ⟨by rw [List.length_drop, List.length_drop, List.length_take, List.length_take, h.1], fun k h1 h2 => ?_⟩
 rw [List.getElem_drop, List.getElem_drop, List.getElem_take, List.getElem_take]
 exact h.2 _ _ _
theorem EntL.tail {w : World} {F : Nat → Prop} {a : EntR} {x : EntT} {raw : List EntR} {l : List EntT} (h : EntL w F (a :: raw) (x :: l)) : EntL w F raw l :=
 ⟨by simpa using h.1, fun i h1 h2 => h.2 (i + 1) (by simpa using h1) (by simpa using h2)⟩
theorem EntL.head {w : World} {F : Nat → Prop} {a : EntR} {x : EntT} {raw : List EntR} {l : List EntT} (h : EntL w F (a :: raw) (x :: l)) : a.1 = x.1 ∧ CartAt w F a.2 x.2 := h.2 0 (by simp) (by simp)
theorem EntL.drop {w : World} {F : Nat → Prop} {raw : List EntR} {l : List EntT} (h : EntL w F raw l) (i : Nat) : EntL w F (raw.drop i) (l.drop i) := by
 refine ⟨by rw [List.length_drop, List.length_drop, h.1], fun k h1 h2 => ?_⟩
 rw [List.getElem_drop, List.getElem_drop]
 exact h.2 _ _ _
def slF : Flat Raw := ⟨1, fun r => [slv r], fun _ => rfl, by simp [Value.oneCell', slv], by decide⟩
def SlsL {α : Type} (E : Enc α) (w : World) (F : Nat → Prop) (ro : List Raw) (xs : List (List α)) : Prop := ro.length = xs.length ∧ ∀ i, ∀ h : i < ro.length, ∀ h' : i < xs.length, Sl E w F (slv ro[i]) xs[i]
section
variable {α : Type} {E : Enc α} {w w' : World} {F F' M : Nat → Prop} {ro : List Raw} {xs : List (List α)} {v : Value}
theorem SlsL.nil : SlsL E w F [] [] := ⟨rfl, fun i h => by simp at h⟩
theorem SlsL.keepM (h : SlsL E w F ro xs) (e : Ext M w w') (hM : ∀ k, F k → ¬ M k) : SlsL E w' F ro xs := ⟨h.1, fun i h1 h2 => (h.2 i h1 h2).keepM e hM⟩
theorem SlsL.keepA (h : SlsL E w F ro xs) (e : Ext M w w') (hM : ∀ k, F k → ¬ M k := by intro k hk h; first | (have q := hF k hk; (try dsimp only at h); omega) | (have q := hF2 k hk; (try dsimp only at h); omega) | (have q := hFb k hk; (try dsimp only at h); omega) | ((try dsimp only at hk); (try dsimp only at h); omega)) : SlsL E w' F ro xs := SlsL.keepM h e hM
theorem SlsL.keep (h : SlsL E w F ro xs) (e : Le w w') : SlsL E w' F ro xs := h.keepM e fun _ _ => not_false
theorem SlsL.weak (h : SlsL E w F ro xs) (hF : ∀ k, F k → F' k) : SlsL E w F' ro xs := ⟨h.1, fun i h1 h2 => (h.2 i h1 h2).weak hF⟩
theorem SlsL.weakA (h : SlsL E w F ro xs) (hF : ∀ k, F k → F' k := by intro q hq; (try dsimp only at hq); (try dsimp only); omega) : SlsL E w F' ro xs := SlsL.weak h hF
theorem SlsL.snoc {a : Raw} {x : List α} (h : SlsL E w F ro xs) (hm : Sl E w F (slv a) x) : SlsL E w F (ro ++ [a]) (xs ++ [x]) := by
 refine ⟨by simp [h.1], fun i h1 h2 => ?_⟩
 have hl := h.1
 simp only [List.length_append, List.length_cons, List.length_nil] at h1
 by_cases hi : i < ro.length
 ·rw [List.getElem_append_left hi, List.getElem_append_left (by omega)]
  exact h.2 i hi (by omega)
 ·have e1 : i = ro.length := by omega
  subst e1
  rw [List.getElem_append_right (by omega), List.getElem_append_right (by omega)]
  simp only [Nat.sub_self, hl, List.getElem_cons_zero]
  exact hm
theorem SlsL.sl (h : SlsL E w F ro xs) (hv : Sl slF.enc w F v ro) : Sl (sliE E) w F v xs := Sl.ofRaws rfl h.1 (fun i h1 h2 => ⟨slv ro[i], rfl, h.2 i h1 h2⟩) hv
end
end Go.Pn
end
section
namespace Go.Pn.Bt
open Go Go.Pn Go.Pn.Jn
section
variable {l : List Ent} {done : List (List Ent)} {k fr : Nat}
theorem cur_next (hk : k < l.length) (hf : fr ≤ k) : (l.take (k + 1)).drop fr = (l.take k).drop fr ++ [l[k]] := by
 rw [List.take_succ_eq_append_getElem hk, List.drop_append_of_le_length (by rw [List.length_take]; omega)]
theorem cur_new (hk : k < l.length) : (l.take (k + 1)).drop k = [l[k]] := by
 rw [cur_next hk (Nat.le_refl _), List.drop_of_length_le (by rw [List.length_take]; omega)]
 rfl
theorem cur_len (hk : k ≤ l.length) : ((l.take k).drop fr).length = k - fr := by rw [List.length_drop, List.length_take]; omega
theorem cur_ne (hk : k ≤ l.length) (hf : fr < k) : (l.take k).drop fr ≠ [] := fun e => by
 have := congrArg List.length e
 rw [cur_len hk] at this
 simp at this
 omega
theorem fits_iff (hk : k < l.length) (hf : fr ≤ k) : fits ((l.take (k + 1)).drop fr) ↔ k - fr + 1 ≤ 1024 ∧ (Cn.num (k - fr + 1)).length + ((((l.take k).drop fr).flatMap entB).length + (entB l[k]).length) + 4 ≤ 65536 := by
 rw [cur_next hk hf]
 unfold fits
 rw [body_snoc, List.length_append, cur_len (by omega)]
 rfl
theorem cur_size (hk : k < l.length) (hf : fr ≤ k) : (((l.take (k + 1)).drop fr).flatMap entB).length = (((l.take k).drop fr).flatMap entB).length + (entB l[k]).length := by
 rw [cur_next hk hf, List.flatMap_append, List.length_append, List.flatMap_singleton]
theorem cur_size0 (hk : k < l.length) : (((l.take (k + 1)).drop k).flatMap entB).length = (entB l[k]).length := by rw [cur_new hk, List.flatMap_singleton]
theorem Done.nextYes (hk : k < l.length) (hf : fr ≤ k) (h : Done l done ((l.take k).drop fr) (l.drop k)) (hy : fr = k ∨ fits ((l.take (k + 1)).drop fr)) : Done l done ((l.take (k + 1)).drop fr) (l.drop (k + 1)) := by
 rw [List.drop_eq_getElem_cons hk] at h
 by_cases e : fr = k
 ·subst e
  rw [List.drop_of_length_le (by rw [List.length_take]; omega)] at h
  rw [cur_new hk]
  exact h.first
 ·have hy := hy.resolve_left e
  rw [cur_next hk hf] at hy ⊢
  exact h.yes (cur_ne (by omega) (by omega)) hy
theorem Done.nextNo (hk : k < l.length) (hf : fr < k) (h : Done l done ((l.take k).drop fr) (l.drop k)) (hn : ¬ fits ((l.take (k + 1)).drop fr)) : Done l (done ++ [(l.take k).drop fr]) ((l.take (k + 1)).drop k) (l.drop (k + 1)) := by
 rw [List.drop_eq_getElem_cons hk] at h
 rw [cur_new hk]
 rw [cur_next hk (by omega)] at hn
 exact h.no (cur_ne (by omega) hf) hn
theorem Done.flush (hk : k < l.length) (hf : fr < k) (h : Done l done ((l.take k).drop fr) (l.drop k)) (hn : ¬ fits ((l.take (k + 1)).drop fr)) : (l.take k).drop fr ∈ split l := by
 refine h.cur_mem (cur_ne (by omega) hf) fun x r e => ?_
 rw [List.drop_eq_getElem_cons hk] at e
 cases e
 rw [cur_next hk (by omega)] at hn
 exact hn
theorem Done.last (hk : k = l.length) (hf : fr < k) (h : Done l done ((l.take k).drop fr) (l.drop k)) : split l = done ++ [l.drop fr] ∧ l.drop fr ∈ split l := by
 subst hk
 rw [List.take_length, List.drop_length] at h
 have e : split l = done ++ [l.drop fr] := h.fin fun q => by
  have := congrArg List.length q
  simp at this
  omega
 exact ⟨e, by rw [e]; simp⟩
theorem Done.none (hk : k = l.length) (hf : fr = k) (h : Done l done ((l.take k).drop fr) (l.drop k)) : split l = done := by
 subst hf hk
 rw [List.take_length, List.drop_length] at h
 exact h.fin0
theorem split_len {g : List Ent} {b : Nat} (hb : ∀ x ∈ l, (entB x).length ≤ b) (h : g ∈ split l) : (enc g).length ≤ max (b + 5) 65536 := by
 rw [enc_len]
 rcases (split_good h).2 with q | q
 ·obtain ⟨x, rfl⟩ := List.length_eq_one_iff.1 q
  have := hb x ((split_sub h).subset (.head _))
  rw [one_body]
  omega
 ·have := q.2; omega
end
end Go.Pn.Bt
end
section
namespace Go.Pn.Bt
open Go Go.Pn Go.Pn.Jn
def end4L (n : BitVec 32) : List UInt8 := [UInt8.ofBitVec ((n / 16777216#32).setWidth 8), UInt8.ofBitVec ((n / 65536#32 % 256#32).setWidth 8), UInt8.ofBitVec ((n / 256#32 % 256#32).setWidth 8), UInt8.ofBitVec ((n % 256#32).setWidth 8)]
theorem end4L_eq (n : BitVec 32) : end4L n = sum4 n := by
 have e : ∀ x : BitVec 32, UInt8.ofBitVec (x.setWidth 8) = UInt8.ofNat (x.toNat % 256) := fun x => by
  apply UInt8.toNat_inj.1
  show (x.setWidth 8).toNat = _
  rw [BitVec.toNat_setWidth, UInt8.toNat_ofNat']
  omega
 have hn := n.isLt
 rw [sum4_nat]
 unfold end4L
 rw [e, e, e, e]
 have d1 : (n / 16777216#32).toNat = n.toNat / 16777216 := by rw [BitVec.toNat_udiv]; rfl
 have d2 : (n / 65536#32 % 256#32).toNat = n.toNat / 65536 % 256 := by rw [BitVec.toNat_umod, BitVec.toNat_udiv]; rfl
 have d3 : (n / 256#32 % 256#32).toNat = n.toNat / 256 % 256 := by rw [BitVec.toNat_umod, BitVec.toNat_udiv]; rfl
 have d4 : (n % 256#32).toNat = n.toNat % 256 := by rw [BitVec.toNat_umod]; rfl
 rw [d1, d2, d3, d4]
 simp only [Nat.mod_mod]
theorem body_le {l : List Ent} {b : Nat} (h : (l.flatMap entB).length ≤ b) (hn : l.length ≤ 1000000) : (body l).length ≤ b + 10 := by
 rw [body_len]
 have := Cn.num_le l.length (by omega)
 omega
section
open Go.Pn.Cn
variable {p : List UInt8} {i : Nat} {q : BitVec 64}
variable {es : List Ent} {k k0 k1 : Nat} {n : BitVec 64} {x : List Ent}
end
end Go.Pn.Bt
end
section
namespace Go.Pn
section
variable {td ti tm te : TypeId} {w w' : World} {F F' M G G' : Nat → Prop} {r : (Raw × Raw) × Raw} {c : CartT}
variable {raw : List EntR} {l : List EntT} {b : Nat → Nat} {i : Nat}
end
end Go.Pn
end
section
namespace Go.Pn.Bt
open Go Go.Pn Go.Pn.Jn
section
variable {l : List Ent} {k : Nat} {gs : List (List Ent)}
end
end Go.Pn.Bt
end
section
namespace Go.Pn
section
variable {P : Program} {n : Nat} {ops rest : List Oper} {N : Val → World → Prop} {Z : List PanicEntry → World → Prop} {f : Val} {w : World}
 {d : Nat} {x : Operand} {t tr e : TypeId} {pos : String} {after : Array Edge}
theorem O.clip {s g m cap : Nat} {kk k2 : IntKind} {hi mx : Operand} (ht : P.underlying t = some (.slice e)) (hsz : ∀ w, (sizeOf e).run P w = .ok s w) (hx : ev n f x = .slice (some ⟨g, 0, none⟩) m cap) (hhi : ev n f hi = .int kk (m : Int)) (hmx : ev n f mx = .int k2 (m : Int)) (h1 : m ≤ cap)
 (h : O P n ops rest N Z (upd f d (.slice (some ⟨g, 0, none⟩) m m)) w) :
 O P n ops ({ dst := some d, op := .slice t x .none (some hi) (some mx), type := tr, pos := pos, after := after, guard := .none } :: rest) N Z f w := by
 refine O.val rfl rfl ?_ h
 have h3 : execOp (ev n f) { dst := some d, op := .slice t x .none (some hi) (some mx), type := tr, pos := pos, after := after, guard := .none } = (do pure (.value (← Instr.sliceAt t (ev n f x) .none (some (ev n f hi)) (some (ev n f mx))))) := rfl
 have hb : ∀ (k9 : IntKind) (c9 : Nat) (e9), m ≤ c9 → (Instr.sliceBound (.int k9 (m : Int)) c9 e9).run P w = .ok m w := fun k9 c9 e9 h9 => by
  have : (m : Int) ≤ c9 := by omega
  simp [Instr.sliceBound, asIntOf, this]
 have h4 : (Instr.sliceAt t (.slice (some ⟨g, 0, none⟩) m cap) .none (some (.int kk (m : Int))) (some (.int k2 (m : Int)))).run P w = .ok (.slice (some ⟨g, 0, none⟩) m m) w := by
  unfold Instr.sliceAt
  rw [Sem.run_bind, run_underlying ht, Result.andThen_ok]
  simp only []
  unfold Instr.slice
  rw [Sem.run_bind, run_underlying ht, Result.andThen_ok]
  simp [Instr.sliceBounds, hsz, hb _ _ _ h1, hb _ _ _ (Nat.le_refl m), Addr.add_none]
 rw [h3, Sem.run_bind, hx, hhi, hmx, h4]
 rfl
theorem O.clipNil {s : Nat} {kk k2 : IntKind} {hi mx : Operand} (ht : P.underlying t = some (.slice e)) (hsz : ∀ w, (sizeOf e).run P w = .ok s w) (hx : ev n f x = .slice none 0 0) (hhi : ev n f hi = .int kk 0) (hmx : ev n f mx = .int k2 0)
 (h : O P n ops rest N Z (upd f d (.slice none 0 0)) w) :
 O P n ops ({ dst := some d, op := .slice t x .none (some hi) (some mx), type := tr, pos := pos, after := after, guard := .none } :: rest) N Z f w := by
 refine O.val rfl rfl ?_ h
 have h3 : execOp (ev n f) { dst := some d, op := .slice t x .none (some hi) (some mx), type := tr, pos := pos, after := after, guard := .none } = (do pure (.value (← Instr.sliceAt t (ev n f x) .none (some (ev n f hi)) (some (ev n f mx))))) := rfl
 have hb : ∀ (k9 : IntKind) (e9), (Instr.sliceBound (.int k9 0) 0 e9).run P w = .ok 0 w := fun k9 e9 => by simp [Instr.sliceBound, asIntOf]
 have h4 : (Instr.sliceAt t (.slice none 0 0) .none (some (.int kk 0)) (some (.int k2 0))).run P w = .ok (.slice none 0 0) w := by
  unfold Instr.sliceAt
  rw [Sem.run_bind, run_underlying ht, Result.andThen_ok]
  simp only []
  unfold Instr.slice
  rw [Sem.run_bind, run_underlying ht, Result.andThen_ok]
  simp [Instr.sliceBounds, hsz, hb]
 rw [h3, Sem.run_bind, hx, hhi, hmx, h4]
 rfl
end
theorem OwnF.clipSl {α : Type} {G : Flat α} {ty : TypeId} {B : Nat} {w : World} {g n cap : Nat} {xs : List α} (h : OwnF G ty B w (.slice (some ⟨g, 0, none⟩) n cap) xs) (hn : xs.length = n) : Sl G.enc w (fun k => k = g) (.slice (some ⟨g, 0, none⟩) n n) xs := by
 subst hn
 obtain ⟨h0, hm⟩ := h
 rcases h0.2 with ⟨h1, _⟩ | ⟨g', cap', cur, h1, hb, hg, hle, hc, hsz, ht⟩
 ·cases h1
 ·have e1 : g = g' := by cases h1; rfl
  have e2 : cap = cap' := by cases h1; rfl
  subst e1; subst e2
  have h8 : OwnF G ty B w (.slice (some ⟨g, 0, none⟩) xs.length cap) xs := ⟨h0, hm⟩
  have h9 := h8.sl
  obtain ⟨_, h9⟩ := h9
  rcases h9 with ⟨a, q1, q2⟩ | ⟨b, off, cap2, cur2, ty2, fr2, q1, q2, q3, q4, q5, q6, q7⟩
  ·have hx : xs.length = 0 := by rw [q2]; rfl
   exact ⟨hm, .inl ⟨some ⟨g, 0, none⟩, by rw [hx], q2⟩⟩
  ·cases q1
   exact ⟨hm, .inr ⟨g, 0, xs.length, cur2, ty2, fr2, rfl, rfl, q3, Nat.le_refl _, hm, fun hp => by have := q6 hp; have := Nat.mul_le_mul_right G.enc.sz hle; omega, q7⟩⟩
def Clip (v' v : Value) : Prop := v = v' ∨ ∃ g n cap, v' = .slice (some ⟨g, 0, none⟩) n cap ∧ v = .slice (some ⟨g, 0, none⟩) n n
theorem OwnF.clips {α : Type} {G : Flat α} {ty : TypeId} {B : Nat} {w : World} {v' v : Value} {xs : List α} (h : OwnF G ty B w v' xs) (hc : Clip v' v) : Sl G.enc w (bk v') v xs := by
 rcases hc with rfl | ⟨g, n, cap, rfl, rfl⟩
 ·exact h.sl
 ·have hn : xs.length = n := by
   rcases h.1.2 with ⟨h1, _⟩ | ⟨g', cap', cur, h1, _⟩
   ·cases h1
   ·cases h1; rfl
  exact (h.clipSl hn).weak fun k hk => hk
end Go.Pn
end
section
namespace Go.Pn.Bt
open Go Go.Pn Go.Pn.Jn
def Mid (n : Nat) (l : List Ent) : Prop := ∀ x ∈ l, x.2.1.1.length ≤ n ∧ x.2.1.2.length ≤ n ∧ x.2.2.length ≤ 200000 ∧ ∀ y ∈ x.2.2, y.1.length ≤ 1000000 ∧ y.2.length ≤ 400000
theorem Mid.sub {n : Nat} {l l' : List Ent} (h : Mid n l) (hs : ∀ x ∈ l', x ∈ l) : Mid n l' := fun x hx => h x (hs x hx)
theorem Mid.big {n : Nat} {l : List Ent} (h : Mid n l) (hn : n ≤ 1000000) {x : Ent} (hx : x ∈ l) : Cn.big x.2 := by
 obtain ⟨h1, h2, h3, h4⟩ := h x hx
 exact ⟨by omega, by omega, by omega, fun y hy => by have := h4 y hy; omega⟩
theorem Mid.tall {x : Ent} (h : ∀ y ∈ x.2.2, y.1.length ≤ 1000000 ∧ y.2.length ≤ 400000) : ∀ y ∈ x.2.2, y.1.length ≤ 1000000 ∧ y.2.length ≤ 1000000 := fun y hy => by have := h y hy; omega
theorem join_sizes (a b : Cart) : (join a b).1.1.length ≤ a.1.1.length + b.1.1.length + (a.1.2.length + b.1.2.length) ∧ (join a b).1.2.length ≤ a.1.2.length + b.1.2.length ∧ (join a b).2.length ≤ a.2.length + b.2.length := ⟨(cunion_len a.1 b.1).1, (cunion_len a.1 b.1).2, jitems_len a b⟩
theorem join_names {a b : Cart} (ga : GoodC a) (gb : GoodC b) : ∀ y ∈ (join a b).2, y.1.length ≤ 64 := fun y hy => ((Cn.validQ (good_iff.2 (join_good ga gb))).2 y hy).1
theorem join_big {x y : Ent} {n : Nat} (hx : x.2.1.1.length ≤ n ∧ x.2.1.2.length ≤ n ∧ x.2.2.length ≤ 200000 ∧ ∀ y ∈ x.2.2, y.1.length ≤ 1000000 ∧ y.2.length ≤ 400000) (hy : y.2.1.1.length ≤ n ∧ y.2.1.2.length ≤ n ∧ y.2.2.length ≤ 200000 ∧ ∀ z ∈ y.2.2, z.1.length ≤ 1000000 ∧ z.2.length ≤ 400000) (hn : n ≤ 100000) (gx : GoodC x.2) (gy : GoodC y.2) : Cn.big (join x.2 y.2) := by
 obtain ⟨h1, h2, h3⟩ := join_sizes x.2 y.2
 have h4 := join_marks (fun z hz => (hx.2.2.2 z hz).2) (fun z hz => (hy.2.2.2 z hz).2)
 have h5 := join_names gx gy
 exact ⟨by omega, by omega, by omega, fun z hz => by have := h4 z hz; have := h5 z hz; omega⟩
section
variable {x y : Ent} {la lb : List Ent}
theorem mrg_a (h : BL x.1 y.1) : merge (x :: la) (y :: lb) = x :: merge la (y :: lb) := merge_first (.inr ⟨y, lb, rfl, h⟩)
theorem mrg_b (h : BL y.1 x.1) : merge (x :: la) (y :: lb) = y :: merge (x :: la) lb := merge_second (.inr ⟨x, la, rfl, h⟩)
theorem mrg_ab (h : x.1 = y.1) : merge (x :: la) (y :: lb) = (x.1, join x.2 y.2) :: merge la lb := merge_both (by rw [h]; exact bl_irrefl _) (by rw [h]; exact bl_irrefl _)
theorem mrg_a0 : merge (x :: la) [] = x :: merge la [] := merge_first (.inl rfl)
theorem mrg_b0 : merge [] (y :: lb) = y :: merge [] lb := merge_second (.inl rfl)
end
end Go.Pn.Bt
end
section
namespace Go.Pn
def ent0 (k : List UInt8) : EntR := (k, ((none, 0, 0), (none, 0, 0)), (none, 0, 0))
def cart0 : CartT := (([], []), [])
theorem CartAt.zero {w : World} {F : Nat → Prop} : CartAt w F (((none, 0, 0), (none, 0, 0)), (none, 0, 0)) cart0 := ⟨Sl.nil _ _ _, Sl.nil _ _ _, Sl.nil _ _ _⟩
theorem EntL.one0 {w : World} {F : Nat → Prop} (k : List UInt8) : EntL w F [ent0 k] [(k, cart0)] := EntL.snoc (raw := []) (l := []) EntL.nil rfl CartAt.zero
theorem EntL.two0 {w : World} {F : Nat → Prop} (k : List UInt8) : EntL w F [ent0 k, ent0 k] [(k, cart0), (k, cart0)] := (EntL.one0 k).snoc (a := ent0 k) (x := (k, cart0)) rfl CartAt.zero
section
variable {te td ti tm : TypeId} {w : World} {lo hi : Nat} {u v : Value} {l : List EntT}
theorem SlE.clips (h : SlE te td ti tm w lo hi u l) (hc : Clip u v) : ∃ raw, Sl entF.enc w (fun j => lo ≤ j ∧ j < hi) v raw ∧ EntL w (fun j => lo ≤ j ∧ j < hi) raw l := by
 obtain ⟨raw, h1, h2⟩ := h
 exact ⟨raw, (h1.1.clips hc).weak h1.2, h2.ents.weak fun _ hk => hk.2⟩
end
end Go.Pn
end
section
namespace Go.Pn.Bt
open Go Go.Pn Go.Pn.Jn
def MRel (l l2 l3 : List Ent) (e : Int) : Prop := (ordered l = true ∧ ordered l2 = true ∧ e = 0 ∧ l3 = merge l l2) ∨ ((ordered l = false ∨ ordered l2 = false) ∧ e = 2 ∧ l3 = [])
theorem mrel_uniq {l l2 l3 l4 : List Ent} {e e' : Int} (h : MRel l l2 l3 e) (h' : MRel l l2 l4 e') : l3 = l4 ∧ e = e' := by
 rcases h with ⟨h1, h2, h3, h4⟩ | ⟨h1, h3, h4⟩ <;> rcases h' with ⟨k1, k2, k3, k4⟩ | ⟨k1, k3, k4⟩
 ·exact ⟨h4.trans k4.symm, h3.trans k3.symm⟩
 ·exfalso
  rcases k1 with q | q
  ·rw [h1] at q; cases q
  ·rw [h2] at q; cases q
 ·exfalso
  rcases h1 with q | q
  ·rw [k1] at q; cases q
  ·rw [k2] at q; cases q
 ·exact ⟨h4.trans k4.symm, h3.trans k3.symm⟩
def kx : List UInt8 := [107]
def ex1 : List Ent := [(kx, cart0)]
def ex2 : List Ent := [(kx, cart0), (kx, cart0)]
theorem valid_nil : valid [] = true := rfl
theorem valid_ex1 : valid ex1 = true := by decide +kernel
theorem ordered_ex1 : ordered ex1 = true := by decide +kernel
theorem ordered_ex2 : ordered ex2 = false := by decide +kernel
theorem valid_ex2 : valid ex2 = false := by decide +kernel
theorem big_ex {l : List Ent} (h : ∀ x ∈ l, x = (kx, cart0)) : Big l := fun x hx => by rw [h x hx]; exact ⟨by decide, by decide, by decide, by decide, fun y hy => by cases hy⟩
theorem mid_ex {l : List Ent} {n : Nat} (h : ∀ x ∈ l, x = (kx, cart0)) : Mid n l := fun x hx => by rw [h x hx]; exact ⟨Nat.zero_le _, Nat.zero_le _, Nat.zero_le _, fun y hy => by cases hy⟩
theorem ex1_all : ∀ x ∈ ex1, x = (kx, cart0) := fun _ hx => List.mem_singleton.1 hx
theorem ex2_all : ∀ x ∈ ex2, x = (kx, cart0) := fun _ hx => by rcases List.mem_cons.1 hx with h | h; exact h; exact List.mem_singleton.1 h
theorem ent_kx : (entB (kx, cart0)).length ≤ 8000000 := by
 unfold kx entB Cn.strB
 rw [show Cn.bytes cart0 = [0, 0, 0] from Cn.bytes_nil0, List.length_singleton, Cn.num_lt (by decide)]
 decide
theorem body_nil : body [] = [0] := by unfold body; rw [List.length_nil, Cn.num_lt (by decide)]; rfl
theorem body_ex1 : body ex1 = [1, 1, 107, 0, 0, 0] := by
 unfold body ex1 kx entB Cn.strB
 simp only [List.length_cons, List.length_nil, List.flatMap_cons, List.flatMap_nil, List.append_nil]
 rw [Cn.num_lt (by decide), show Cn.bytes cart0 = [0, 0, 0] from Cn.bytes_nil0]
 rfl
theorem enc_nil_len : (enc []).length = 5 := by rw [enc_len, body_nil]; rfl
theorem enc_ex1_len : (enc ex1).length = 10 := by rw [enc_len, body_ex1]; rfl
theorem enc_ex1_six : (enc ex1).take 6 = [1, 1, 107, 0, 0, 0] := by
 unfold enc end4
 rw [body_ex1]
 rfl
theorem split_ex1 : split ex1 = [ex1] := by unfold split ex1; rw [splitO_first, splitO_end (by simp)]
theorem merge_ex1_nil : merge ex1 [] = ex1 := by unfold ex1; rw [mrg_a0, merge_nil]
theorem merge_ex1 : merge ex1 ex1 = ex1 := merge_self (ord_iff.1 ordered_ex1)
theorem dec_nil : DecRes [] [] 12 := dec_short (by decide)
theorem dec_five : DecRes [0, 0, 0, 0, 0] [] 12 := by
 refine dec_sum fun e => ?_
 have h : sumOf [0] = 0#32 := by
  have q : ([0, 0, 0, 0, 0] : List UInt8) = end4 [0] := e
  unfold end4 at q
  have q2 : sum4 (sumOf [0]) = [0, 0, 0, 0] := by simpa using q.symm
  rw [← sumU_sum4 (sumOf [0]), q2]
  rfl
 revert h
 decide +kernel
end Go.Pn.Bt
end
section
namespace Go.Pn.Bt
open Go Go.Pn Go.Pn.Jn
section
variable {l : List Ent} {most : Int}
theorem small_ent (h : small l most = true) : ∀ x ∈ l, (entB x).length ≤ 25110 := fun x hx => ent_small ((small_iff h).2 x hx).1 ((small_iff h).2 x hx).2
theorem small_flat (h : small l most = true) : (l.flatMap entB).length ≤ 25110 * l.length := Cn.flatMap_le (small_ent h)
theorem small_len (h : small l most = true) : (l.length : Int) ≤ most := (small_iff h).1
theorem small_valid (h : small l most = true) (hm : most ≤ 1024) : valid l = ordered l := by
 unfold valid
 rw [decide_eq_true (by have := small_len h; omega), Bool.true_and]
theorem small_mid (h : small l most = true) : Mid 20000 l := fun x hx => by
 obtain ⟨h1, h2, h3, h4⟩ := Cn.small_iff ((small_iff h).2 x hx).2
 exact ⟨by omega, by omega, by omega, fun y hy => by have := h4 y hy; omega⟩
theorem enc_le (h : small l most = true) : (enc l).length ≤ 25110 * l.length + 14 + l.length := by
 have h1 := small_flat h
 have h2 := num_le_len l.length
 rw [enc_len, body_len]
 omega
where
 num_le_len (n : Nat) : (Cn.num n).length ≤ 10 + n := by
  by_cases h : n < 2 ^ 64
  ·have := Cn.num_le n h; omega
  ·have key : ∀ m : Nat, (Cn.num m).length ≤ 1 + m := by
    intro m
    induction m using Nat.strongRecOn with
    | ind m ih =>
      by_cases q : m < 128
      ·rw [Cn.num_lt q]; simp
      ·rw [Cn.num_ge q, List.length_cons]
       have := ih (m / 128) (by omega)
       omega
   have := key n
   omega
end
end Go.Pn.Bt
end
