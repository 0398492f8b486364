/-
 PLAIN LAWS OF THE STABLE SORT: elements exchanged, neighbours exchanged, merges, blocks. Of no program.
-/
import Derived.Test.YtbadfphdniliaaaGreatDoorDiscountMeansM1
import Derived.Maps.RangeRun
import Derived.MapKept
import Derived.Laws.RangeString
import Derived.Lib.AppendZeros
import Derived.Lib.AppendStr
import Derived.Scope
import Derived.ChangeKeysEq
import Derived.Laws.IdiomCopy
import Derived.Lib.AppendZerosOnto
import Derived.Lib.Overlaps
section
namespace Go.Pn.Ss
def swp (ys : List Int) (p q : Nat) : List Int := (ys.set p (ys.getD q 0)).set q (ys.getD p 0)
def swR (xs : List Int) (a b : Nat) : Nat → List Int
 | 0 => xs
 | k + 1 => swp (swR xs a b k) (a + k) (b + k)
theorem swp_length (ys : List Int) (p q : Nat) : (swp ys p q).length = ys.length := by unfold swp; simp
theorem swR_length (xs : List Int) (a b : Nat) : ∀ k, (swR xs a b k).length = xs.length
 | 0 => rfl
 | k + 1 => by unfold swR; rw [swp_length, swR_length xs a b k]
theorem getD_mid {U : List Int} {x : Int} {V : List Int} {i : Nat} (h : i = U.length) : (U ++ x :: V).getD i 0 = x := by
 subst h
 rw [List.getD_eq_getElem?_getD, List.getElem?_append_right (Nat.le_refl _), Nat.sub_self]
 rfl
theorem set_mid {U : List Int} {x y : Int} {V : List Int} {i : Nat} (h : i = U.length) : (U ++ x :: V).set i y = U ++ y :: V := by
 subst h
 rw [List.set_append_right _ _ (Nat.le_refl _), Nat.sub_self]
 rfl
theorem swp_at {U V W : List Int} {x y : Int} {p q : Nat} (hp : p = U.length) (hq : q = U.length + 1 + V.length) : swp (U ++ x :: (V ++ y :: W)) p q = U ++ y :: (V ++ x :: W) := by
 have hq2 : q = (U ++ x :: V).length := by rw [hq, List.length_append, List.length_cons]; omega
 have hq3 : q = (U ++ y :: V).length := by rw [hq, List.length_append, List.length_cons]; omega
 have e1 : ∀ z : Int, U ++ x :: (V ++ z :: W) = (U ++ x :: V) ++ z :: W := fun z => by rw [List.append_assoc]; rfl
 have e2 : ∀ z : Int, U ++ y :: (V ++ z :: W) = (U ++ y :: V) ++ z :: W := fun z => by rw [List.append_assoc]; rfl
 unfold swp
 rw [getD_mid hp, e1, getD_mid hq2, ← e1, set_mid hp, e2, set_mid hq3, ← e2]
theorem swp_comm {ys : List Int} {p q : Nat} (h : p ≠ q) : swp ys p q = swp ys q p := by
 unfold swp
 exact List.set_comm _ _ h
theorem swR_part {P X M Y S : List Int} (hXY : X.length = Y.length) : ∀ k, k ≤ X.length → swR (P ++ (X ++ (M ++ (Y ++ S)))) P.length (P.length + X.length + M.length) k = P ++ (Y.take k ++ (X.drop k ++ (M ++ (X.take k ++ (Y.drop k ++ S)))))
 | 0, _ => by simp [swR]
 | k + 1, h => by
   have hX : k < X.length := h
   have hY : k < Y.length := by omega
   unfold swR
   rw [swR_part hXY k (by omega)]
   have e1 : X.drop k = X[k] :: X.drop (k + 1) := List.drop_eq_getElem_cons hX
   have e2 : Y.drop k = Y[k] :: Y.drop (k + 1) := List.drop_eq_getElem_cons hY
   have e3 : X.take (k + 1) = X.take k ++ [X[k]] := List.take_succ_eq_append_getElem hX
   have e4 : Y.take (k + 1) = Y.take k ++ [Y[k]] := List.take_succ_eq_append_getElem hY
   have := swp_at (U := P ++ Y.take k) (V := X.drop (k + 1) ++ (M ++ X.take k)) (W := Y.drop (k + 1) ++ S) (x := X[k]) (y := Y[k]) (p := P.length + k) (q := P.length + X.length + M.length + k) (by rw [List.length_append, List.length_take, Nat.min_eq_left (by omega)]) (by simp only [List.length_append, List.length_take, List.length_drop]; omega)
   rw [e1, e2, e3, e4]
   simp only [List.append_assoc, List.cons_append, List.nil_append] at this ⊢
   exact this
theorem swR_seg {P X M Y S : List Int} (hXY : X.length = Y.length) {a b k : Nat} (ha : a = P.length) (hb : b = P.length + X.length + M.length) (hk : k = X.length) : swR (P ++ (X ++ (M ++ (Y ++ S)))) a b k = P ++ (Y ++ (M ++ (X ++ S))) := by
 subst ha hb hk
 rw [swR_part hXY _ (Nat.le_refl _), List.take_length, List.drop_length, hXY, List.take_length, List.drop_length]
 rfl
def insW (P D : List Int) (x : Int) (t : Nat) (R : List Int) : List Int := P ++ (D.take t ++ x :: (D.drop t ++ R))
theorem insW_length (P D : List Int) (x : Int) (t : Nat) (R : List Int) : (insW P D x t R).length = P.length + D.length + 1 + R.length := by
 have h := congrArg List.length (List.take_append_drop t D)
 rw [List.length_append] at h
 unfold insW
 simp only [List.length_append, List.length_cons]
 omega
theorem insW_full (P D : List Int) (x : Int) (R : List Int) : insW P D x D.length R = P ++ (D ++ x :: R) := by unfold insW; rw [List.take_length, List.drop_length]; rfl
theorem insW_eq (P D : List Int) (x : Int) (t : Nat) (R : List Int) : insW P D x t R = P ++ ((D.take t ++ x :: D.drop t) ++ R) := by unfold insW; simp
theorem insW_at {P D : List Int} {x : Int} {t : Nat} {R : List Int} (h : t ≤ D.length) {i : Nat} (hi : i = P.length + t) : (insW P D x t R).getD i 0 = x := by
 unfold insW
 rw [← List.append_assoc]
 exact getD_mid (by rw [hi, List.length_append, List.length_take, Nat.min_eq_left h])
theorem insW_left {P D : List Int} {x : Int} {t : Nat} {R : List Int} (h : t < D.length) {i : Nat} (hi : i = P.length + t) : (insW P D x (t + 1) R).getD i 0 = D.getD t 0 := by
 unfold insW
 rw [List.take_succ_eq_append_getElem h, List.append_assoc, List.singleton_append, ← List.append_assoc, getD_mid (by rw [hi, List.length_append, List.length_take, Nat.min_eq_left (by omega)]), List.getD_eq_getElem?_getD, List.getElem?_eq_getElem h]
 rfl
theorem insW_up {P D : List Int} {x : Int} {t : Nat} {R : List Int} (h : t < D.length) {i j : Nat} (hi : i = P.length + t) (hj : j = P.length + t + 1) : swp (insW P D x t R) i j = insW P D x (t + 1) R := by
 have e1 : D.drop t = D[t] :: D.drop (t + 1) := List.drop_eq_getElem_cons h
 have e2 : D.take (t + 1) = D.take t ++ [D[t]] := List.take_succ_eq_append_getElem h
 have := swp_at (U := P ++ D.take t) (V := []) (W := D.drop (t + 1) ++ R) (x := x) (y := D[t]) (p := i) (q := j) (by rw [hi, List.length_append, List.length_take, Nat.min_eq_left (by omega)]) (by rw [hj, List.length_append, List.length_take, Nat.min_eq_left (by omega)]; rfl)
 unfold insW
 rw [e1, e2]
 simp only [List.append_assoc, List.cons_append, List.nil_append] at this ⊢
 exact this
theorem insW_down {P D : List Int} {x : Int} {t : Nat} {R : List Int} (h : t < D.length) {i j : Nat} (hi : i = P.length + t + 1) (hj : j = P.length + t) : swp (insW P D x (t + 1) R) i j = insW P D x t R := by
 have e1 : D.drop t = D[t] :: D.drop (t + 1) := List.drop_eq_getElem_cons h
 have e2 : D.take (t + 1) = D.take t ++ [D[t]] := List.take_succ_eq_append_getElem h
 have := swp_at (U := P ++ D.take t) (V := []) (W := D.drop (t + 1) ++ R) (x := D[t]) (y := x) (p := j) (q := i) (by rw [hj, List.length_append, List.length_take, Nat.min_eq_left (by omega)]) (by rw [hi, List.length_append, List.length_take, Nat.min_eq_left (by omega)]; rfl)
 rw [swp_comm (by omega)]
 unfold insW
 rw [e1, e2]
 simp only [List.append_assoc, List.cons_append, List.nil_append] at this ⊢
 exact this
def L (k : Int → Nat) (x y : Int) : Prop := k y < k x ∨ (k y = k x ∧ x < y)
theorem L.trans {k : Int → Nat} {x y z : Int} (h1 : L k x y) (h2 : L k y z) : L k x z := by unfold L at *; omega
theorem L.not {k : Int → Nat} {x y : Int} (h : y < x) (hn : ¬ k y < k x) : L k y x := by unfold L; omega
theorem L.of {k : Int → Nat} {x y : Int} (h : k y < k x) : L k x y := .inl h
theorem L.irrefl {k : Int → Nat} {x : Int} (h : L k x x) : False := by unfold L at h; omega
def Asc (k : Int → Nat) (D : List Int) : Prop := D.Pairwise (L k)
theorem asc_get {k : Int → Nat} {D : List Int} (h : Asc k D) {i j : Nat} (hij : i < j) (hj : j < D.length) : L k (D.getD i 0) (D.getD j 0) := by
 have := List.pairwise_iff_getElem.1 h i j (by omega) hj hij
 rw [List.getD_eq_getElem?_getD, List.getElem?_eq_getElem (by omega), List.getD_eq_getElem?_getD, List.getElem?_eq_getElem hj]
 exact this
theorem mem_take {D : List Int} {s : Nat} {y : Int} (h : y ∈ D.take s) : ∃ i, i < s ∧ i < D.length ∧ y = D.getD i 0 := by
 obtain ⟨i, hi, rfl⟩ := List.getElem_of_mem h
 rw [List.length_take] at hi
 refine ⟨i, by omega, by omega, ?_⟩
 rw [List.getElem_take, List.getD_eq_getElem?_getD, List.getElem?_eq_getElem (by omega)]
 rfl
theorem mem_drop {D : List Int} {s : Nat} {y : Int} (h : y ∈ D.drop s) : ∃ i, s ≤ i ∧ i < D.length ∧ y = D.getD i 0 := by
 obtain ⟨i, hi, rfl⟩ := List.getElem_of_mem h
 rw [List.length_drop] at hi
 refine ⟨s + i, by omega, by omega, ?_⟩
 rw [List.getElem_drop, List.getD_eq_getElem?_getD, List.getElem?_eq_getElem (by omega)]
 rfl
theorem getD_mem {D : List Int} {i : Nat} (h : i < D.length) : D.getD i 0 ∈ D := by
 rw [List.getD_eq_getElem?_getD, List.getElem?_eq_getElem h]
 exact List.getElem_mem h
theorem below_take {k : Int → Nat} {D : List Int} {x : Int} {s : Nat} (h : Asc k D) (hs : s ≤ D.length) (hb : s = 0 ∨ L k (D.getD (s - 1) 0) x) : ∀ y ∈ D.take s, L k y x := by
 intro y hy
 obtain ⟨i, h1, h2, rfl⟩ := mem_take hy
 rcases hb with rfl | hb
 ·omega
 ·rcases Nat.lt_or_ge i (s - 1) with h3 | h3
  ·exact (asc_get h h3 (by omega)).trans hb
  ·obtain rfl : i = s - 1 := by omega
   exact hb
theorem above_drop {k : Int → Nat} {D : List Int} {x : Int} {s : Nat} (h : Asc k D) (hb : s = D.length ∨ L k x (D.getD s 0)) : ∀ y ∈ D.drop s, L k x y := by
 intro y hy
 obtain ⟨i, h1, h2, rfl⟩ := mem_drop hy
 rcases hb with rfl | hb
 ·omega
 ·rcases Nat.lt_or_eq_of_le h1 with h3 | h3
  ·exact hb.trans (asc_get h h3 h2)
  ·subst h3
   exact hb
theorem put_asc {k : Int → Nat} {D : List Int} {x : Int} {s : Nat} (h : Asc k D) (h1 : ∀ y ∈ D.take s, L k y x) (h2 : ∀ y ∈ D.drop s, L k x y) : Asc k (D.take s ++ x :: D.drop s) := by
 have h0 : Asc k (D.take s ++ D.drop s) := by rw [List.take_append_drop]; exact h
 unfold Asc at *
 rw [List.pairwise_append] at h0 ⊢
 obtain ⟨a, b, c⟩ := h0
 refine ⟨a, List.pairwise_cons.2 ⟨h2, b⟩, fun y hy z hz => ?_⟩
 rcases List.mem_cons.1 hz with rfl | hz
 ·exact h1 y hy
 ·exact c y hy z hz
theorem put_perm (D : List Int) (x : Int) (s : Nat) : (D.take s ++ x :: D.drop s).Perm (x :: D) := by
 refine List.perm_middle.trans ?_
 rw [List.take_append_drop]
structure Mg (k : Int → Nat) (z : Nat) (A C : List Int) : Prop where
 a : Asc k A
 c : Asc k C
 lt : ∀ x ∈ A, ∀ y ∈ C, x < y
 ia : ∀ x ∈ A, 0 ≤ x ∧ x < z
 ic : ∀ x ∈ C, 0 ≤ x ∧ x < z
structure Mgd (k : Int → Nat) (A C M : List Int) : Prop where
 perm : M.Perm (A ++ C)
 asc : Asc k M
theorem Mgd.length {k : Int → Nat} {A C M : List Int} (h : Mgd k A C M) : M.length = A.length + C.length := by rw [h.perm.length_eq, List.length_append]
theorem asc_take {k : Int → Nat} {D : List Int} {s : Nat} (h : Asc k D) : Asc k (D.take s) := List.Pairwise.sublist (List.take_sublist _ _) h
theorem asc_drop {k : Int → Nat} {D : List Int} {s : Nat} (h : Asc k D) : Asc k (D.drop s) := List.Pairwise.sublist (List.drop_sublist _ _) h
theorem Mg.left {k : Int → Nat} {z : Nat} {A C : List Int} (h : Mg k z A C) (s e : Nat) : Mg k z (A.take s) (C.take e) :=
 ⟨asc_take h.a, asc_take h.c, fun x hx y hy => h.lt x (List.mem_of_mem_take hx) y (List.mem_of_mem_take hy), fun x hx => h.ia x (List.mem_of_mem_take hx), fun x hx => h.ic x (List.mem_of_mem_take hx)⟩
theorem Mg.right {k : Int → Nat} {z : Nat} {A C : List Int} (h : Mg k z A C) (s e : Nat) : Mg k z (A.drop s) (C.drop e) :=
 ⟨asc_drop h.a, asc_drop h.c, fun x hx y hy => h.lt x (List.mem_of_mem_drop hx) y (List.mem_of_mem_drop hy), fun x hx => h.ia x (List.mem_of_mem_drop hx), fun x hx => h.ic x (List.mem_of_mem_drop hx)⟩
theorem Mg.one_left {k : Int → Nat} {z : Nat} {x : Int} {C : List Int} {s : Nat} (h : Mg k z [x] C) (hs : s ≤ C.length) (h1 : s = 0 ∨ L k (C.getD (s - 1) 0) x) (h2 : s = C.length ∨ L k x (C.getD s 0)) : Mgd k [x] C (C.take s ++ x :: C.drop s) :=
 ⟨put_perm C x s, put_asc h.c (below_take h.c hs h1) (above_drop h.c h2)⟩
theorem Mg.one_right {k : Int → Nat} {z : Nat} {x : Int} {A : List Int} {s : Nat} (h : Mg k z A [x]) (hs : s ≤ A.length) (h1 : s = 0 ∨ L k (A.getD (s - 1) 0) x) (h2 : s = A.length ∨ L k x (A.getD s 0)) : Mgd k A [x] (A.take s ++ x :: A.drop s) :=
 ⟨(put_perm A x s).trans (List.perm_append_comm (l₁ := [x]) (l₂ := A)), put_asc h.a (below_take h.a hs h1) (above_drop h.a h2)⟩
theorem Mg.cross {k : Int → Nat} {z : Nat} {A C : List Int} {s e : Nat} (h : Mg k z A C) (hs : s ≤ A.length) (he : e ≤ C.length) (h1 : s = 0 ∨ e = C.length ∨ L k (A.getD (s - 1) 0) (C.getD e 0)) (h2 : s = A.length ∨ e = 0 ∨ L k (C.getD (e - 1) 0) (A.getD s 0)) :
 ∀ x ∈ A.take s ++ C.take e, ∀ y ∈ A.drop s ++ C.drop e, L k x y := by
 intro x hx y hy
 rcases List.mem_append.1 hx with hx | hx
 ·obtain ⟨i, i1, i2, rfl⟩ := mem_take hx
  rcases List.mem_append.1 hy with hy | hy
  ·obtain ⟨j, j1, j2, rfl⟩ := mem_drop hy
   exact asc_get h.a (by omega) j2
  ·obtain ⟨j, j1, j2, rfl⟩ := mem_drop hy
   have hq : L k (A.getD (s - 1) 0) (C.getD e 0) := (h1.resolve_left (by omega)).resolve_left (by omega)
   have q1 : L k (A.getD i 0) (C.getD e 0) := by
    rcases Nat.lt_or_ge i (s - 1) with h3 | h3
    ·exact (asc_get h.a h3 (by omega)).trans hq
    ·obtain rfl : i = s - 1 := by omega
     exact hq
   rcases Nat.lt_or_eq_of_le j1 with h3 | h3
   ·exact q1.trans (asc_get h.c h3 j2)
   ·subst h3; exact q1
 ·obtain ⟨i, i1, i2, rfl⟩ := mem_take hx
  rcases List.mem_append.1 hy with hy | hy
  ·obtain ⟨j, j1, j2, rfl⟩ := mem_drop hy
   have hq : L k (C.getD (e - 1) 0) (A.getD s 0) := (h2.resolve_left (by omega)).resolve_left (by omega)
   have q1 : L k (C.getD i 0) (A.getD s 0) := by
    rcases Nat.lt_or_ge i (e - 1) with h3 | h3
    ·exact (asc_get h.c h3 (by omega)).trans hq
    ·obtain rfl : i = e - 1 := by omega
     exact hq
   rcases Nat.lt_or_eq_of_le j1 with h3 | h3
   ·exact q1.trans (asc_get h.a h3 j2)
   ·subst h3; exact q1
  ·obtain ⟨j, j1, j2, rfl⟩ := mem_drop hy
   exact asc_get h.c (by omega) j2
theorem Mg.join {k : Int → Nat} {z : Nat} {A C M1 M2 : List Int} {s e : Nat} (_h : Mg k z A C) (hx : ∀ x ∈ A.take s ++ C.take e, ∀ y ∈ A.drop s ++ C.drop e, L k x y) (h1 : Mgd k (A.take s) (C.take e) M1) (h2 : Mgd k (A.drop s) (C.drop e) M2) : Mgd k A C (M1 ++ M2) := by
 refine ⟨?_, ?_⟩
 ·refine (h1.perm.append h2.perm).trans ?_
  have : (A ++ C).Perm ((A.take s ++ A.drop s) ++ (C.take e ++ C.drop e)) := by rw [List.take_append_drop, List.take_append_drop]
  refine List.Perm.trans ?_ this.symm
  simp only [List.append_assoc]
  refine List.Perm.append_left _ ?_
  rw [← List.append_assoc, ← List.append_assoc]
  exact List.Perm.append_right _ List.perm_append_comm
 ·unfold Asc
  rw [List.pairwise_append]
  exact ⟨h1.asc, h2.asc, fun x hx1 y hy1 => hx x (h1.perm.mem_iff.1 hx1) y (h2.perm.mem_iff.1 hy1)⟩
theorem Mg.idle {k : Int → Nat} {z : Nat} {A C : List Int} (h : Mg k z A C) (h0 : A.length = 0 ∨ C.length = 0) : Mgd k A C (A ++ C) := by
 refine ⟨List.Perm.refl _, ?_⟩
 rcases h0 with h0 | h0
 ·rw [List.eq_nil_of_length_eq_zero h0]; exact h.c
 ·rw [List.eq_nil_of_length_eq_zero h0, List.append_nil]; exact h.a
def iota (b n : Nat) : List Int := (List.range n).map fun i => ((b + i : Nat) : Int)
theorem iota_length (b n : Nat) : (iota b n).length = n := by unfold iota; simp
theorem iota_take {b n s : Nat} (h : s ≤ n) : (iota b n).take s = iota b s := by
 unfold iota
 rw [← List.map_take, List.take_range, Nat.min_eq_left h]
theorem iota_drop {b n s : Nat} : (iota b n).drop s = iota (b + s) (n - s) := by
 apply List.ext_getElem
 ·rw [List.length_drop, iota_length, iota_length]
 ·intro i h1 h2
  have e : ∀ c m j, ∀ hj : j < (iota c m).length, (iota c m)[j] = ((c + j : Nat) : Int) := fun c m j hj => by
   simp only [iota, List.getElem_map, List.getElem_range]
  rw [List.getElem_drop, e, e]
  congr 1
  omega
theorem iota_append (b n m : Nat) : iota b (n + m) = iota b n ++ iota (b + n) m := by
 have := List.take_append_drop n (iota b (n + m))
 rw [iota_take (by omega), iota_drop, show n + m - n = m by omega] at this
 exact this.symm
theorem mem_iota {b n : Nat} {x : Int} (h : x ∈ iota b n) : (b : Int) ≤ x ∧ x < b + n := by
 unfold iota at h
 obtain ⟨i, hi, rfl⟩ := List.mem_map.1 h
 have := List.mem_range.1 hi
 omega
theorem iota_lt (b n : Nat) : (iota b n).Pairwise (· < ·) := by
 unfold iota
 rw [List.pairwise_map]
 exact List.Pairwise.imp (fun {a c} h => by omega) (List.pairwise_lt_range)
structure Bl (k : Int → Nat) (b : Nat) (D : List Int) : Prop where
 asc : Asc k D
 perm : D.Perm (iota b D.length)
theorem Bl.nil (k : Int → Nat) (b : Nat) : Bl k b [] := ⟨List.Pairwise.nil, List.Perm.refl _⟩
theorem Bl.mem {k : Int → Nat} {b : Nat} {D : List Int} (h : Bl k b D) {x : Int} (hx : x ∈ D) : (b : Int) ≤ x ∧ x < b + D.length := mem_iota (h.perm.mem_iff.1 hx)
theorem Bl.mg {k : Int → Nat} {b z : Nat} {A C : List Int} (hA : Bl k b A) (hC : Bl k (b + A.length) C) (hz : b + A.length + C.length ≤ z) : Mg k z A C :=
 ⟨hA.asc, hC.asc, fun x hx y hy => by have := hA.mem hx; have := hC.mem hy; omega, fun x hx => by have := hA.mem hx; omega, fun x hx => by have := hC.mem hx; omega⟩
theorem Bl.of {k : Int → Nat} {b : Nat} {A C M : List Int} (hA : Bl k b A) (hC : Bl k (b + A.length) C) (h : Mgd k A C M) : Bl k b M :=
 ⟨h.asc, by rw [h.length, iota_append]; exact h.perm.trans (hA.perm.append hC.perm)⟩
def blk (s q : Nat) (D : List Int) : List Int := (D.drop (q * s)).take s
def Bls (k : Int → Nat) (s : Nat) (D : List Int) (q : Nat) : Prop := Bl k (q * s) (blk s q D)
theorem blk_left {s q : Nat} {D D' : List Int} {t : Nat} (h : D.take t = D'.take t) (hq : q * s + s ≤ t) : blk s q D = blk s q D' := by
 have e : ∀ X : List Int, blk s q X = ((X.take t).drop (q * s)).take s := fun X => by
  unfold blk
  rw [List.drop_take, List.take_take, Nat.min_eq_left (by omega)]
 rw [e, e, h]
theorem blk_right {s q : Nat} {D D' : List Int} {t : Nat} (h : D.drop t = D'.drop t) (hq : t ≤ q * s) : blk s q D = blk s q D' := by
 have e : ∀ X : List Int, blk s q X = ((X.drop t).drop (q * s - t)).take s := fun X => by
  unfold blk
  rw [List.drop_drop, show t + (q * s - t) = q * s by omega]
 rw [e, e, h]
theorem blk_beyond {s q : Nat} {D : List Int} (h : D.length ≤ q * s) : blk s q D = [] := by
 unfold blk
 rw [List.drop_of_length_le h, List.take_nil]
theorem bls_beyond {k : Int → Nat} {s q : Nat} {D : List Int} (h : D.length ≤ q * s) : Bls k s D q := by
 unfold Bls
 rw [blk_beyond h]
 exact Bl.nil _ _
theorem rot1 {Q U V T : List Int} {a b k : Nat} (ha : a = Q.length) (hb : b = Q.length + U.length) (hk : k = V.length) (hu : k ≤ U.length) : swR (Q ++ (U ++ (V ++ T))) a b k = (Q ++ V) ++ (U.drop k ++ (U.take k ++ T)) := by
 have h1 : (U.take k).length = k := by rw [List.length_take, Nat.min_eq_left hu]
 have h2 : (U.drop k).length = U.length - k := List.length_drop
 have := swR_seg (P := Q) (X := U.take k) (M := U.drop k) (Y := V) (S := T) (a := a) (b := b) (k := k) (by omega) ha (by omega) (by omega)
 rw [← List.append_assoc (U.take k), List.take_append_drop] at this
 rw [this, List.append_assoc]
theorem rot2 {Q U V T : List Int} {a b k j : Nat} (ha : a = Q.length) (hb : b = Q.length + U.length + j) (hk : k = U.length) (hj : j + k = V.length) : swR (Q ++ (U ++ (V ++ T))) a b k = Q ++ (V.drop j ++ (V.take j ++ (U ++ T))) := by
 have h1 : (V.take j).length = j := by rw [List.length_take, Nat.min_eq_left (by omega)]
 have h2 : (V.drop j).length = V.length - j := List.length_drop
 have := swR_seg (P := Q) (X := U) (M := V.take j) (Y := V.drop j) (S := T) (a := a) (b := b) (k := k) (by omega) ha (by omega) (by omega)
 rw [← List.append_assoc (V.take j), List.take_append_drop] at this
 exact this
theorem rot3 {Q U V T : List Int} {a b k : Nat} (ha : a = Q.length) (hb : b = Q.length + U.length) (hk : k = U.length) (hu : U.length = V.length) : swR (Q ++ (U ++ (V ++ T))) a b k = Q ++ (V ++ (U ++ T)) :=
 swR_seg (P := Q) (X := U) (M := []) (Y := V) (S := T) hu ha (by simpa using hb) hk
theorem rotE1 {Q U V T R : List Int} {k : Nat} (h : Q ++ (V ++ (U ++ T)) = R) : (Q ++ V) ++ (U.take k ++ (U.drop k ++ T)) = R := by
 rw [← List.append_assoc (U.take k), List.take_append_drop, List.append_assoc]
 exact h
theorem rotE2 {Q U V T R : List Int} {k : Nat} (h : Q ++ (V ++ (U ++ T)) = R) : Q ++ (V.take k ++ (V.drop k ++ (U ++ T))) = R := by
 rw [← List.append_assoc (V.take k), List.take_append_drop]
 exact h
theorem asc_one {k : Int → Nat} (A : List Int) : Asc k (A.take 1) := by
 cases A with
 | nil => exact List.Pairwise.nil
 | cons x A => exact List.pairwise_singleton _ _
theorem getD_get {D : List Int} {i : Nat} (h : i < D.length) : D.getD i 0 = D[i] := by
 rw [List.getD_eq_getElem?_getD, List.getElem?_eq_getElem h]
 rfl
theorem ins_lt {A D : List Int} {d : Nat} (hA : A.Pairwise (· < ·)) (hp : D.Perm (A.take d)) (hd : d < A.length) {y : Int} (hy : y ∈ D) : y < A.getD d 0 := by
 obtain ⟨i, h1, h2, rfl⟩ := mem_take (hp.mem_iff.1 hy)
 rw [getD_get h2, getD_get hd]
 exact List.pairwise_iff_getElem.1 hA i d h2 hd h1
theorem ins_perm {A D : List Int} {d t : Nat} (hp : D.Perm (A.take d)) (hd : d < A.length) : (D.take t ++ A.getD d 0 :: D.drop t).Perm (A.take (d + 1)) := by
 refine (put_perm D _ t).trans ?_
 rw [List.take_succ_eq_append_getElem hd, getD_get hd]
 exact (List.Perm.cons _ hp).trans (List.perm_append_comm (l₁ := [A[d]]) (l₂ := A.take d))
theorem drop_cons {D : List Int} {d : Nat} (hd : d < D.length) : D.drop d = D.getD d 0 :: D.drop (d + 1) := by rw [getD_get hd]; exact List.drop_eq_getElem_cons hd
theorem all_drop {p : Int → Prop} {D : List Int} {t : Nat} (ht : t < D.length) (h : p (D.getD t 0)) (h2 : ∀ y ∈ D.drop (t + 1), p y) : ∀ y ∈ D.drop t, p y := by
 intro y hy
 rw [drop_cons ht] at hy
 rcases List.mem_cons.1 hy with rfl | hy
 ·exact h
 ·exact h2 y hy
theorem app_left {P A R : List Int} {i j : Nat} (hi : i < A.length) (hj : j = P.length + i) : (P ++ (A ++ R)).getD j 0 = A.getD i 0 := by
 subst hj
 rw [List.getD_eq_getElem?_getD, List.getElem?_append_right (by omega), List.getElem?_append_left (by omega), List.getD_eq_getElem?_getD]
 congr 2
 omega
theorem app_right {P A C R : List Int} {i j : Nat} (hi : i < C.length) (hj : j = P.length + A.length + i) : (P ++ (A ++ (C ++ R))).getD j 0 = C.getD i 0 := by
 rw [← List.append_assoc]
 exact app_left hi (by rw [List.length_append]; exact hj)
theorem insW_down2 {P D : List Int} {x : Int} {t : Nat} {R : List Int} (h0 : 0 < t) (h : t ≤ D.length) {i j : Nat} (hi : i = P.length + t) (hj : j = P.length + (t - 1)) : swp (insW P D x t R) i j = insW P D x (t - 1) R := by
 obtain ⟨s, rfl⟩ : ∃ s, t = s + 1 := ⟨t - 1, by omega⟩
 exact insW_down (by omega) (by omega) (by omega)
theorem insW_left2 {P D : List Int} {x : Int} {t : Nat} {R : List Int} (h0 : 0 < t) (h : t ≤ D.length) {i : Nat} (hi : i = P.length + (t - 1)) : (insW P D x t R).getD i 0 = D.getD (t - 1) 0 := by
 obtain ⟨s, rfl⟩ : ∃ s, t = s + 1 := ⟨t - 1, by omega⟩
 exact insW_left (by omega) (by omega)
theorem ins_start {P A E T : List Int} {d : Nat} (he : E.length = d) (hd : d < A.length) : insW P E (A.getD d 0) d (A.drop (d + 1) ++ T) = P ++ (E ++ (A.drop d ++ T)) := by
 subst he
 rw [insW_full, drop_cons hd]
 rfl
theorem half64 {m : Int} (h0 : 0 ≤ m) (h1 : m < 9223372036854775808) : ((BitVec.ofInt 64 m) >>> 1).toInt = m / 2 := by
 have e : (BitVec.ofInt 64 m).toNat = m.toNat := by
  rw [BitVec.toNat_ofInt]
  omega
 have e2 : ((BitVec.ofInt 64 m) >>> 1).toNat = m.toNat / 2 := by rw [BitVec.toNat_ushiftRight, e, Nat.shiftRight_eq_div_pow]
 rw [BitVec.toInt_eq_toNat_of_lt (by rw [e2]; omega), e2]
 omega
theorem one_of {A : List Int} (h : A.length = 1) : A = [A.getD 0 0] := by
 obtain ⟨x, rfl⟩ := List.length_eq_one_iff.1 h
 rfl
theorem sym1 {P A Y R : List Int} (s e : Nat) : P ++ (A ++ (Y ++ R)) = (P ++ A.take s) ++ (A.drop s ++ (Y.take e ++ (Y.drop e ++ R))) := by
 rw [← List.append_assoc (Y.take e), List.take_append_drop, List.append_assoc P, ← List.append_assoc (A.take s), List.take_append_drop]
theorem sym2 {P U V W R : List Int} (h : U.length = 0 ∨ V.length = 0) : (P ++ W) ++ (U ++ (V ++ R)) = P ++ (W ++ (V ++ (U ++ R))) := by
 rcases h with h | h
 ·rw [List.eq_nil_of_length_eq_zero h]; simp
 ·rw [List.eq_nil_of_length_eq_zero h]; simp
end Go.Pn.Ss
end
section
namespace Go.Pn
section
variable {P : Program} {n : Nat} {l : List Oper} {N : Val → World → Prop} {X : Nat → Val → World → Prop} {R : Val → World → Prop} {Z : List PanicEntry → World → Prop} {f : Val} {w wB : World} {M : Nat → Prop}
 {pos : String} {after : Array Edge} {ty : TypeId} {x : Operand} {d : Nat}
def DM (P : Program) (n : Nat) (l : List Oper) (listed : Array Bool) (N : Val → World → Prop) (Z : List PanicEntry → World → Prop) (M : Nat → Prop) (wB : World) (fuel : Nat) (f : Val) (w : World) : Prop :=
 wpAnyH P .any l.toArray (Q0 n N Z) (fun w' => Ext M wB w') fuel listed (Fr n f) w
theorem C.drawM {id : Nat} (M : Nat → Prop) (hm : P.follows .mixedOrders = true) (h : ∀ w1, Le w w1 → DM P n l (Array.replicate l.toArray.size false) N Z M w1 l.toArray.size f w1) : C P n (.region id l.toArray true) N X R Z f w := by
 refine wp_mono (wp_region_held (S := fun w' => Ext M { w with drawn := w.drawn + 1 } w') hm (h { w with drawn := w.drawn + 1 } ⟨rfl, rfl, rfl, Nat.le_refl _, fun _ _ _ => rfl⟩)) ?_
 intro e a w he
 cases e with
 | normal => exact he
 | exit i => obtain ⟨_, _, h⟩ := he; exact h.elim
 | goto l => exact he
 | ret => obtain ⟨_, _, h⟩ := he; exact h.elim
 | panic ch => exact he
 | outgrown => exact he
theorem DM.done {listed : Array Bool} {fuel : Nat} (hr : Region.ready .any l.toArray listed = []) (h : N f w) : DM P n l listed N Z M wB fuel f w := wpAnyH_done hr ⟨f, rfl, h⟩ fuel
theorem DM.take {listed : Array Bool} {fuel i : Nat} {o : Oper} {d : Nat} {v : Value} (hi : l[i]? = some o) (hg : o.guard = .none) (hd : o.dst = some d) (hdn : Nat.ble (d + 1) n = true)
 (hk : (Region.noSelect l.toArray && Region.free .any l.toArray listed i && (Region.ready .any l.toArray listed).contains i) = true)
 (hS : Ext M wB w) (hX : ∃ X : Sem Value, execOp (ev n f) o = (do pure (.value (← X))))
 (hO : ∀ w', Ext M wB w' → ∀ N : Val → World → Prop, N (upd f d v) w' → O P n [o] [o] N (fun _ _ => False) f w')
 (h : DM P n l (listed.setIfInBounds i true) N Z M wB fuel (upd f d v) w) : DM P n l listed N Z M wB (fuel + 1) f w := by
 simp only [Bool.and_eq_true] at hk
 have hy : YieldsIf P l.toArray (fun w' => Ext M wB w') o v (Fr n f) :=
  .inl ⟨by simp [Region.wanted, hg], fun w' hw => by rw [eval_Fr]; exact run_of_O hg hd (Nat.le_of_ble_eq_true hdn) hX (hO w' hw)⟩
 refine wpAnyH_take (i := i) (oi := o) (v := v) (by simpa using hi) hk.1.1 hk.1.2 hk.2 (Q0_put _ _) hy hS ?_
 rw [hd, put_Fr]
 exact h
theorem DM.takeYes {listed : Array Bool} {fuel i : Nat} {dst : Option Nat} {op : Op} {ty : TypeId} {pos : String} {after : Array Edge} {j dj : Nat} {b : Bool} {d : Nat} {v : Value}
 (hi : l[i]? = some { dst := dst, op := op, type := ty, pos := pos, after := after, guard := some (j, b) }) (hd : dst = some d) (hdn : Nat.ble (d + 1) n = true)
 (hk : (Region.noSelect l.toArray && Region.free .any l.toArray listed i && (Region.ready .any l.toArray listed).contains i) = true)
 (hj : (l[j]?).bind (·.dst) = some dj) (hv : ev n f (.tmp dj) = .bool b)
 (hS : Ext M wB w) (hX : ∃ X : Sem Value, execOp (ev n f) { dst := dst, op := op, type := ty, pos := pos, after := after, guard := .none } = (do pure (.value (← X))))
 (hO : ∀ w', Ext M wB w' → ∀ N : Val → World → Prop, N (upd f d v) w' → O P n [{ dst := dst, op := op, type := ty, pos := pos, after := after, guard := .none }] [{ dst := dst, op := op, type := ty, pos := pos, after := after, guard := .none }] N (fun _ _ => False) f w')
 (h : DM P n l (listed.setIfInBounds i true) N Z M wB fuel (upd f d v) w) : DM P n l listed N Z M wB (fuel + 1) f w := by
 simp only [Bool.and_eq_true] at hk
 have hy0 : yielded l.toArray (Fr n f).tmps j = some b := by
  have hd := getD_Fr n f dj
  rw [hv] at hd
  unfold yielded
  have h1 : (l.toArray[j]?).bind (·.dst) = some dj := by simpa using hj
  rw [h1]
  simp only [Option.bind_some]
  rw [Array.getD_eq_getD_getElem?] at hd
  cases hx : (Fr n f).tmps[dj]? with
  | none => rw [hx] at hd; simp [undef] at hd
  | some v => rw [hx] at hd; simp at hd; subst hd; rfl
 have hy : YieldsIf P l.toArray (fun w' => Ext M wB w') { dst := dst, op := op, type := ty, pos := pos, after := after, guard := some (j, b) } v (Fr n f) :=
  .inl ⟨by simp [Region.wanted, hy0], fun w' hw => by rw [eval_Fr]; exact run_of_O (o := { dst := dst, op := op, type := ty, pos := pos, after := after, guard := .none }) rfl hd (Nat.le_of_ble_eq_true hdn) hX (hO w' hw)⟩
 refine wpAnyH_take (i := i) (v := v) (by simpa using hi) hk.1.1 hk.1.2 hk.2 (Q0_put _ _) hy hS ?_
 simp only [hd]
 rw [put_Fr]
 exact h
theorem DM.step {listed : Array Bool} {fuel j : Nat} {o : Oper} (hi : l[j]? = some o) (hg : o.guard = .none)
 (hO : O P n [o] [o] (fun f' w' => Ext M wB w' ∧ DM P n l (listed.setIfInBounds j true) N Z M wB fuel f' w') Z f w) :
 wpOp P l.toArray (Q0 n N Z) j (fun a' w' => Ext M wB w' ∧ wpAnyH P .any l.toArray (Q0 n N Z) (fun w' => Ext M wB w') fuel (listed.setIfInBounds j true) a' w') (Fr n f) w := by
 unfold wpOp
 have hi2 : l.toArray[j]? = some o := by simpa using hi
 rw [hi2]
 unfold O at hO
 simp only [wpList, Region.wanted, hg, if_true] at hO ⊢
 have key : ∀ a' w', Q0 n (fun f' w' => Ext M wB w' ∧ DM P n l (listed.setIfInBounds j true) N Z M wB fuel f' w') Z .normal a' w' → Ext M wB w' ∧ wpAnyH P .any l.toArray (Q0 n N Z) (fun w' => Ext M wB w') fuel (listed.setIfInBounds j true) a' w' := by
  rintro a' w' ⟨f', rfl, h1, h2⟩
  exact ⟨h1, h2⟩
 rcases hO with h | ⟨_, a0, w0, h0⟩
 ·left
  unfold Oper.wp at h ⊢
  generalize (execOp (Fr n f).eval o).run P w = r at h ⊢
  cases r with
  | ok nx w' =>
    cases nx with
    | value v => exact key _ _ h
    | skip => exact key _ _ h
    | defer d => exact key _ _ h
    | enter k args =>
      refine Calls.mono h ?_
      intro e w'' he
      cases e with
      | returned v => exact key _ _ he
      | panicked ch => exact he
      | outgrown => obtain ⟨a0, w0, h0⟩ := he; exact h0.elim
    | row r args => exact Rows.mono h fun v w'' hv => key _ _ hv
    | _ => exact h.elim
  | halt hh w' => cases hh <;> first | exact h | exact h.elim
 ·exact h0.elim
theorem DM.one {listed : Array Bool} {fuel i : Nat} {o : Oper} (hi : l[i]? = some o) (hg : o.guard = .none) (hr : Region.ready .any l.toArray listed = [i])
 (hO : O P n [o] [o] (fun f' w' => Ext M wB w' ∧ DM P n l (listed.setIfInBounds i true) N Z M wB fuel f' w') Z f w) : DM P n l listed N Z M wB (fuel + 1) f w := by
 refine wpAnyH_all hr (by simp) ?_
 intro j hj
 obtain rfl : j = i := by simpa using hj
 exact DM.step hi hg hO
def DMStep (P : Program) (n : Nat) (l : List Oper) (listed : Array Bool) (N : Val → World → Prop) (Z : List PanicEntry → World → Prop) (M : Nat → Prop) (wB : World) (fuel : Nat) (f : Val) (w : World) (j : Nat) : Prop :=
 wpOp P l.toArray (Q0 n N Z) j (fun a' w' => Ext M wB w' ∧ wpAnyH P .any l.toArray (Q0 n N Z) (fun w' => Ext M wB w') fuel (listed.setIfInBounds j true) a' w') (Fr n f) w
theorem DM.many {listed : Array Bool} {fuel : Nat} (is : List Nat) (hr : Region.ready .any l.toArray listed = is) (hne : is ≠ []) (h : allP (DMStep P n l listed N Z M wB fuel f w) is) : DM P n l listed N Z M wB (fuel + 1) f w := by
 subst hr
 exact wpAnyH_all rfl hne (allP_mem h)
theorem DM.stepU {listed : Array Bool} {fuel j : Nat} {o : Oper} (hi : l[j]? = some o) (hg : o.guard = .none)
 (hO : O P n [o] [o] (fun f' w' => Ext M wB w' ∧ DM P n l (listed.setIfInBounds j true) N Z M wB fuel f' w') Z f w) : DMStep P n l listed N Z M wB fuel f w j := DM.step hi hg hO
theorem DM.takeNo {listed : Array Bool} {fuel i : Nat} {dst : Option Nat} {op : Op} {j dj : Nat} {b : Bool} {d : Nat}
 (hi : l[i]? = some { dst := dst, op := op, type := ty, pos := pos, after := after, guard := some (j, b) }) (hd : dst = some d)
 (hk : (Region.noSelect l.toArray && Region.free .any l.toArray listed i && (Region.ready .any l.toArray listed).contains i) = true)
 (hS : Ext M wB w) (hj : (l[j]?).bind (·.dst) = some dj) (hv : isB b (ev n f (.tmp dj)) = false)
 (h : DM P n l (listed.setIfInBounds i true) N Z M wB fuel (upd f d undef) w) : DM P n l listed N Z M wB (fuel + 1) f w := by
 simp only [Bool.and_eq_true] at hk
 have hy0 : (yielded l.toArray (Fr n f).tmps j == some b) = false := by
  have hd := getD_Fr n f dj
  unfold yielded
  have h1 : (l.toArray[j]?).bind (·.dst) = some dj := by simpa using hj
  rw [h1]
  simp only [Option.bind_some]
  rw [Array.getD_eq_getD_getElem?] at hd
  cases hx : (Fr n f).tmps[dj]? with
  | none => rfl
  | some v =>
    rw [hx] at hd
    simp only [Option.getD_some] at hd
    rw [← hd] at hv
    cases v <;> first | rfl | (simp only [isB] at hv; simpa using hv)
 have hy : YieldsIf P l.toArray (fun w' => Ext M wB w') { dst := dst, op := op, type := ty, pos := pos, after := after, guard := some (j, b) } undef (Fr n f) :=
  .inr ⟨by simp only [Region.wanted]; exact hy0, rfl⟩
 refine wpAnyH_take (i := i) (v := undef) (by simpa using hi) hk.1.1 hk.1.2 hk.2 (Q0_put _ _) hy hS ?_
 simp only [hd]
 rw [put_Fr]
 exact h
theorem DM.split {listed : Array Bool} {fuel : Nat} {b : Bool} (hx : ev n f x = .bool b) (h1 : b = true → DM P n l listed N Z M wB fuel f w) (h2 : b = false → DM P n l listed N Z M wB fuel f w) : DM P n l listed N Z M wB fuel f w := by
 cases b
 ·exact h2 rfl
 ·exact h1 rfl
theorem DM.splitD {listed : Array Bool} {fuel : Nat} {p : Prop} [Decidable p] (_hx : ev n f x = .bool (decide p)) (h1 : p → DM P n l listed N Z M wB fuel f w) (h2 : ¬ p → DM P n l listed N Z M wB fuel f w) : DM P n l listed N Z M wB fuel f w := by
 by_cases h : p
 ·exact h1 h
 ·exact h2 h
theorem DM.cast {listed : Array Bool} {fuel : Nat} {v v' : Value} (hv : v = v') (h : DM P n l listed N Z M wB fuel (upd f d v') w) : DM P n l listed N Z M wB fuel (upd f d v) w := hv ▸ h
theorem DM.oneYes {l : List Oper} {listed : Array Bool} {fuel i : Nat} {dst : Option Nat} {op : Op} {ty : TypeId} {j dj : Nat} {b : Bool}
 (hi : l[i]? = some { dst := dst, op := op, type := ty, pos := pos, after := after, guard := some (j, b) }) (hj : (l[j]?).bind (·.dst) = some dj) (hv : ev n f (.tmp dj) = .bool b) (hr : Region.ready .any l.toArray listed = [i])
 (hO : O P n [{ dst := dst, op := op, type := ty, pos := pos, after := after, guard := .none }] [{ dst := dst, op := op, type := ty, pos := pos, after := after, guard := .none }] (fun f' w' => Ext M wB w' ∧ DM P n l (listed.setIfInBounds i true) N Z M wB fuel f' w') Z f w) : DM P n l listed N Z M wB (fuel + 1) f w := by
 refine wpAnyH_all hr (by simp) ?_
 intro i' hi'
 obtain rfl : i' = i := by simpa using hi'
 have hy0 : yielded l.toArray (Fr n f).tmps j = some b := by
  have hd := getD_Fr n f dj
  rw [hv] at hd
  unfold yielded
  have h1 : (l.toArray[j]?).bind (·.dst) = some dj := by simpa using hj
  rw [h1]
  simp only [Option.bind_some]
  rw [Array.getD_eq_getD_getElem?] at hd
  cases hx : (Fr n f).tmps[dj]? with
  | none => rw [hx] at hd; simp [undef] at hd
  | some v => rw [hx] at hd; simp at hd; subst hd; rfl
 unfold wpOp
 have hi2 : l.toArray[i']? = some { dst := dst, op := op, type := ty, pos := pos, after := after, guard := some (j, b) } := by simpa using hi
 rw [hi2]
 unfold O at hO
 simp only [wpList, Region.wanted, if_true, hy0, beq_self_eq_true] at hO ⊢
 have key : ∀ a' w', Q0 n (fun f' w' => Ext M wB w' ∧ DM P n l (listed.setIfInBounds i' true) N Z M wB fuel f' w') Z .normal a' w' → Ext M wB w' ∧ wpAnyH P .any l.toArray (Q0 n N Z) (fun w' => Ext M wB w') fuel (listed.setIfInBounds i' true) a' w' := by
  rintro a' w' ⟨f', rfl, h1, h2⟩
  exact ⟨h1, h2⟩
 rcases hO with h | ⟨_, a0, w0, h0⟩
 ·left
  unfold Oper.wp at h ⊢
  have hex : execOp (Fr n f).eval { dst := dst, op := op, type := ty, pos := pos, after := after, guard := some (j, b) } = execOp (Fr n f).eval { dst := dst, op := op, type := ty, pos := pos, after := after, guard := .none } := rfl
  rw [hex]
  generalize (execOp (Fr n f).eval { dst := dst, op := op, type := ty, pos := pos, after := after, guard := .none }).run P w = r at h ⊢
  cases r with
  | ok nx w' =>
    cases nx with
    | value v => exact key _ _ h
    | skip => exact key _ _ h
    | defer d => exact key _ _ h
    | enter k args =>
      refine Calls.mono h ?_
      intro e w'' he
      cases e with
      | returned v => exact key _ _ he
      | panicked ch => exact he
      | outgrown => obtain ⟨a0, w0, h0⟩ := he; exact h0.elim
    | row r args => exact Rows.mono h fun v w'' hv => key _ _ hv
    | _ => exact h.elim
  | halt hh w' => cases hh <;> first | exact h | exact h.elim
 ·exact h0.elim
end
end Go.Pn
end
section
namespace Go.Pn
open Go.RowKit
def Fre {α : Type} (G : Flat α) (ty : TypeId) (w : World) (F : Nat → Prop) (v : Value) (xs : List α) : Prop := OwnF G ty 0 w v xs ∧ ∀ k, bk v k → F k
abbrev Raw := Option Addr × Nat × Nat
section
variable {α : Type} {G : Flat α} {ty : TypeId} {B : Nat} {w w' : World} {F F' M : Nat → Prop} {v : Value} {xs : List α}
theorem Fre.nil (G : Flat α) (ty : TypeId) (w : World) (F : Nat → Prop) : Fre G ty w F (.slice none 0 0) [] := ⟨OwnF.nil _ _ _ _, fun _ h => h.elim⟩
theorem Fre.keepM (h : Fre G ty w F v xs) (e : Ext M w w') (hM : ∀ k, F k → ¬ M k) : Fre G ty w' F v xs := ⟨h.1.keepM e fun k hk => hM k (h.2 k hk), h.2⟩
theorem Fre.keepA (h : Fre G ty w F v xs) (e : Ext M w w') (hM : ∀ k, F k → ¬ M k := by intro k hk h; first | (have q := hF k hk; (try dsimp only at h); omega) | (have q := hF2 k hk; (try dsimp only at h); omega) | (have q := hFb k hk; (try dsimp only at h); omega) | ((try dsimp only at hk); (try dsimp only at h); omega)) : Fre G ty w' F v xs := Fre.keepM h e hM
theorem Fre.keep (h : Fre G ty w F v xs) (e : Le w w') : Fre G ty w' F v xs := h.keepM e fun _ _ => not_false
theorem Fre.weak (h : Fre G ty w F v xs) (hF : ∀ k, F k → F' k) : Fre G ty w F' v xs := ⟨h.1, fun k hk => hF k (h.2 k hk)⟩
theorem Fre.weakA (h : Fre G ty w F v xs) (hF : ∀ k, F k → F' k := by intro q hq; (try dsimp only at hq); (try dsimp only); omega) : Fre G ty w F' v xs := Fre.weak h hF
theorem Fre.sl (h : Fre G ty w F v xs) : Sl G.enc w F v xs := h.1.sl.weak h.2
theorem Fre.len {q : Raw} (h : Fre G ty w F (Go.Pn.slv q) xs) : q.2.1 = xs.length := by
 rcases h.1.1.2 with ⟨hv, h0⟩ | ⟨g, cap, cur, hv, _⟩
 ·rw [h0]; simp only [Go.Pn.slv, Value.slice.injEq] at hv; exact hv.2.1
 ·simp only [Go.Pn.slv, Value.slice.injEq] at hv; exact hv.2.1
theorem Fre.slv (h : Fre G ty w F v xs) : ∃ a, v = Go.Pn.slv a := h.sl.slv
end
def ItemsF (tm : TypeId) (w : World) (F : Nat → Prop) (raw : List (List UInt8 × Raw)) (xs : List ItemT) : Prop :=
 raw.length = xs.length ∧ ∀ i, ∀ h : i < raw.length, ∀ h' : i < xs.length, raw[i].1 = xs[i].1 ∧ Fre markF tm w F (slv raw[i].2) xs[i].2
section
variable {tm ti : TypeId} {w w' : World} {F F' M : Nat → Prop} {raw : List (List UInt8 × Raw)} {xs : List ItemT} {v : Value}
theorem ItemsF.nil : ItemsF tm w F [] [] := ⟨rfl, fun i h => by simp at h⟩
theorem ItemsF.keepM (h : ItemsF tm w F raw xs) (e : Ext M w w') (hM : ∀ k, F k → ¬ M k) : ItemsF tm w' F raw xs := ⟨h.1, fun i h1 h2 => ⟨(h.2 i h1 h2).1, (h.2 i h1 h2).2.keepM e hM⟩⟩
theorem ItemsF.keepA (h : ItemsF tm w F raw xs) (e : Ext M w w') (hM : ∀ k, F k → ¬ M k := by intro k hk h; first | (have q := hF k hk; (try dsimp only at h); omega) | (have q := hF2 k hk; (try dsimp only at h); omega) | (have q := hFb k hk; (try dsimp only at h); omega) | ((try dsimp only at hk); (try dsimp only at h); omega)) : ItemsF tm w' F raw xs := ItemsF.keepM h e hM
theorem ItemsF.keep (h : ItemsF tm w F raw xs) (e : Le w w') : ItemsF tm w' F raw xs := h.keepM e fun _ _ => not_false
theorem ItemsF.weak (h : ItemsF tm w F raw xs) (hF : ∀ k, F k → F' k) : ItemsF tm w F' raw xs := ⟨h.1, fun i h1 h2 => ⟨(h.2 i h1 h2).1, (h.2 i h1 h2).2.weak hF⟩⟩
theorem ItemsF.weakA (h : ItemsF tm w F raw xs) (hF : ∀ k, F k → F' k := by intro q hq; (try dsimp only at hq); (try dsimp only); omega) : ItemsF tm w F' raw xs := ItemsF.weak h hF
theorem ItemsF.items (h : ItemsF tm w F raw xs) : Items w F raw xs := ⟨h.1, fun i h1 h2 => ⟨(h.2 i h1 h2).1, (h.2 i h1 h2).2.sl⟩⟩
theorem ItemsF.snoc {a : List UInt8 × Raw} {x : ItemT} (h : ItemsF tm w F raw xs) (hn : a.1 = x.1) (hm : Fre markF tm w F (slv a.2) x.2) : ItemsF tm w F (raw ++ [a]) (xs ++ [x]) := by
 refine ⟨by simp [h.1], fun i h1 h2 => ?_⟩
 have hl := h.1
 simp only [List.length_append, List.length_cons, List.length_nil] at h1
 by_cases hi : i < raw.length
 ·rw [List.getElem_append_left hi, List.getElem_append_left (by omega)]
  exact h.2 i hi (by omega)
 ·have e1 : i = raw.length := by omega
  subst e1
  rw [List.getElem_append_right (by omega), List.getElem_append_right (by omega)]
  simp only [Nat.sub_self, hl, List.getElem_cons_zero]
  exact ⟨hn, hm⟩
def SlI (ti tm : TypeId) (w : World) (F : Nat → Prop) (v : Value) (xs : List ItemT) : Prop := ∃ raw, Fre itemF ti w F v raw ∧ ItemsF tm w F raw xs
theorem SlI.nil (ti tm : TypeId) (w : World) (F : Nat → Prop) : SlI ti tm w F (.slice none 0 0) [] := ⟨[], Fre.nil _ _ _ _, ItemsF.nil⟩
theorem SlI.keepM (h : SlI ti tm w F v xs) (e : Ext M w w') (hM : ∀ k, F k → ¬ M k) : SlI ti tm w' F v xs := by obtain ⟨raw, h1, h2⟩ := h; exact ⟨raw, h1.keepM e hM, h2.keepM e hM⟩
theorem SlI.keepA (h : SlI ti tm w F v xs) (e : Ext M w w') (hM : ∀ k, F k → ¬ M k := by intro k hk h; first | (have q := hF k hk; (try dsimp only at h); omega) | (have q := hF2 k hk; (try dsimp only at h); omega) | (have q := hFb k hk; (try dsimp only at h); omega) | ((try dsimp only at hk); (try dsimp only at h); omega)) : SlI ti tm w' F v xs := SlI.keepM h e hM
theorem SlI.keep (h : SlI ti tm w F v xs) (e : Le w w') : SlI ti tm w' F v xs := h.keepM e fun _ _ => not_false
theorem SlI.weak (h : SlI ti tm w F v xs) (hF : ∀ k, F k → F' k) : SlI ti tm w F' v xs := by obtain ⟨raw, h1, h2⟩ := h; exact ⟨raw, h1.weak hF, h2.weak hF⟩
theorem SlI.weakA (h : SlI ti tm w F v xs) (hF : ∀ k, F k → F' k := by intro q hq; (try dsimp only at hq); (try dsimp only); omega) : SlI ti tm w F' v xs := SlI.weak h hF
theorem SlI.sl (h : SlI ti tm w F v xs) : Sl itemE w F v xs := by obtain ⟨raw, h1, h2⟩ := h; exact h2.items.sl h1.sl
end
theorem Fre.put {α : Type} {G : Flat α} {ty : TypeId} {w : World} {F : Nat → Prop} {v : Value} {xs : List α} (h : Fre G ty w F v xs) {g i off : Nat} {cur : Array Value} {u : Value} (hg : w.heap[g]? = some (.cells cur ty (0, 0))) (ho : off < G.sz) (hset : ∀ x, ∃ z, G.e z = (G.e x).set off u) :
 ∃ xs' : List α, Fre G ty (w.setCell ⟨g, i * G.sz + off, none⟩ u) F v xs' ∧ xs'.length = xs.length ∧ (∀ {β : Type} (p : α → β), (∀ x z, G.e z = (G.e x).set off u → p z = p x) → xs'.map p = xs.map p) ∧ ∀ Q : α → Prop, (∀ x ∈ xs, Q x) → (∀ x z, G.e z = (G.e x).set off u → Q z) → ∀ z ∈ xs', Q z := by
 have same : ∀ hh : Fre G ty (w.setCell ⟨g, i * G.sz + off, none⟩ u) F v xs, _ := fun hh => (⟨xs, hh, rfl, fun _ _ => rfl, fun _ h _ => h⟩ : ∃ xs' : List α, Fre G ty (w.setCell ⟨g, i * G.sz + off, none⟩ u) F v xs' ∧ xs'.length = xs.length ∧ (∀ {β : Type} (p : α → β), (∀ x z, G.e z = (G.e x).set off u → p z = p x) → xs'.map p = xs.map p) ∧ ∀ Q : α → Prop, (∀ x ∈ xs, Q x) → (∀ x z, G.e z = (G.e x).set off u → Q z) → ∀ z ∈ xs', Q z)
 rcases h.1.1.2 with ⟨rfl, h0⟩ | ⟨g', cap, cur', rfl, hb, hg', hn, hc, hsz, ht⟩
 ·obtain rfl := List.eq_nil_of_length_eq_zero h0
  exact same (Fre.nil _ _ _ _)
 by_cases hgg : g' = g
 ·subst hgg
  by_cases hi : i < xs.length
  ·obtain ⟨z, hz⟩ := hset xs[i]
   refine ⟨xs.set i z, ⟨h.1.put1 hi ho hz, h.2⟩, by simp, fun p hp => ?_, fun Q h1 h2 y hy => ?_⟩
   rotate_left
   ·rcases List.mem_or_eq_of_mem_set hy with q | rfl
    ·exact h1 _ q
    ·exact h2 _ _ hz
   rw [List.map_set, hp _ _ hz]
   apply List.ext_getElem (by simp)
   intro j h1 h2
   rw [List.getElem_set]
   split
   ·rename_i hij
    subst hij
    simp
   ·rfl
  ·refine same ⟨⟨⟨h.1.1.1, .inr ⟨g', cap, (cur'.toList.set (i * G.sz + off) u).toArray, rfl, hb, heap_set w g' (i * G.sz + off) u (cs := cur'.toList) (ty := ty) (fr := (0, 0)) (by simpa using hg'), hn, hc, by simpa using hsz, ?_⟩⟩, h.1.2⟩, h.2⟩
   have h1 : xs.length * G.sz ≤ i * G.sz := Nat.mul_le_mul_right _ (by omega)
   rw [List.take_set_of_le (by omega)]
   exact ht
 ·exact same (h.keepM (Ext.set w ⟨g, i * G.sz + off, none⟩ u) (M := fun k => k = g) (w' := w.setCell ⟨g, i * G.sz + off, none⟩ u) |> fun _ => ⟨⟨⟨h.1.1.1, .inr ⟨g', cap, cur', rfl, hb, ((Ext.set w ⟨g, i * G.sz + off, none⟩ u).block g' (lt_of_some hg') hgg).trans hg', hn, hc, hsz, ht⟩⟩, h.1.2⟩, h.2⟩)
theorem Fre.off {α : Type} {G : Flat α} {ty ty' : TypeId} {w : World} {F : Nat → Prop} {v : Value} {xs : List α} (h : Fre G ty w F v xs) {g k : Nat} {cur : Array Value} {u : Value} (hg : w.heap[g]? = some (.cells cur ty' (0, 0))) (hne : ty ≠ ty') : Fre G ty (w.setCell ⟨g, k, none⟩ u) F v xs := by
 rcases h.1.1.2 with ⟨rfl, h0⟩ | ⟨g', cap, cur', rfl, hb, hg', hn, hc, hsz, ht⟩
 ·obtain rfl := List.eq_nil_of_length_eq_zero h0
  exact Fre.nil _ _ _ _
 have hgg : g' ≠ g := by
  rintro rfl
  rw [hg] at hg'
  cases hg'
  exact hne rfl
 exact ⟨⟨⟨h.1.1.1, .inr ⟨g', cap, cur', rfl, hb, ((Ext.set w ⟨g, k, none⟩ u).block g' (lt_of_some hg') hgg).trans hg', hn, hc, hsz, ht⟩⟩, h.1.2⟩, h.2⟩
structure Stn (td ti tm : TypeId) (w : World) (F : Nat → Prop) (a1 a2 a3 : Raw) (ps : List Raw) (K : Nat) : Prop where
 d1 : ∃ xs, Fre Dt.dotF td w F (slv a1) xs
 d2 : ∃ xs, Fre Dt.dotF td w F (slv a2) xs
 d3 : ∃ raw, Fre itemF ti w F (slv a3) raw ∧ raw.map (·.2) = ps ∧ ∀ r ∈ raw, r.1.length ≤ K
 m : ∀ p ∈ ps, ∃ ms, Fre markF tm w F (slv p) ms
section
variable {td ti tm : TypeId} {w w' : World} {F M : Nat → Prop} {a1 a2 a3 : Raw} {ps : List Raw} {K : Nat}
theorem Stn.keepM (h : Stn td ti tm w F a1 a2 a3 ps K) (e : Ext M w w') (hM : ∀ k, F k → ¬ M k) : Stn td ti tm w' F a1 a2 a3 ps K := by
 obtain ⟨⟨x1, h1⟩, ⟨x2, h2⟩, ⟨x3, h3, h4, h5⟩, h6⟩ := h
 refine ⟨⟨x1, h1.keepM e hM⟩, ⟨x2, h2.keepM e hM⟩, ⟨x3, h3.keepM e hM, h4, h5⟩, fun p hp => ?_⟩
 obtain ⟨ms, h7⟩ := h6 p hp
 exact ⟨ms, h7.keepM e hM⟩
theorem Stn.keepA (h : Stn td ti tm w F a1 a2 a3 ps K) (e : Ext M w w') (hM : ∀ k, F k → ¬ M k := by intro k hk h; first | (have q := hF k hk; (try dsimp only at h); omega) | (have q := hF2 k hk; (try dsimp only at h); omega) | (have q := hFb k hk; (try dsimp only at h); omega) | ((try dsimp only at hk); (try dsimp only at h); omega)) : Stn td ti tm w' F a1 a2 a3 ps K := Stn.keepM h e hM
theorem Stn.keep (h : Stn td ti tm w F a1 a2 a3 ps K) (e : Le w w') : Stn td ti tm w' F a1 a2 a3 ps K := h.keepM e fun _ _ => not_false
theorem Stn.of {v1 v2 v3 : Value} {xs ys : List Dt.Dot} {its : List ItemT} (h1 : Fre Dt.dotF td w F v1 xs) (h2 : Fre Dt.dotF td w F v2 ys) (h3 : SlI ti tm w F v3 its) (hn : ∀ x ∈ its, x.1.length ≤ K) : ∃ a1 a2 a3 ps, v1 = slv a1 ∧ v2 = slv a2 ∧ v3 = slv a3 ∧ Stn td ti tm w F a1 a2 a3 ps K := by
 obtain ⟨a1, rfl⟩ := h1.slv
 obtain ⟨a2, rfl⟩ := h2.slv
 obtain ⟨raw, h4, h5⟩ := h3
 obtain ⟨a3, rfl⟩ := h4.slv
 refine ⟨a1, a2, a3, raw.map (·.2), rfl, rfl, rfl, ⟨_, h1⟩, ⟨_, h2⟩, ⟨raw, h4, rfl, fun r hr => ?_⟩, fun p hp => ?_⟩
 ·obtain ⟨i, hi, rfl⟩ := List.getElem_of_mem hr
  rw [(h5.2 i hi (by rw [← h5.1]; exact hi)).1]
  exact hn _ (List.getElem_mem _)
 ·obtain ⟨r, hr, rfl⟩ := List.mem_map.1 hp
  obtain ⟨i, hi, rfl⟩ := List.getElem_of_mem hr
  exact ⟨_, (h5.2 i hi (by rw [← h5.1]; exact hi)).2⟩
end
section
variable {P : Program} {n : Nat} {ops rest : List Oper} {N : Val → World → Prop} {Z : List PanicEntry → World → Prop} {f : Val} {w : World}
 {x y : Operand} {t tr ty : TypeId} {pos : String} {after : Array Edge} {α : Type}
end
end Go.Pn
end
section
namespace Go.Pn
open Go.RowKit
section
variable {P : Program} {n : Nat} {ops rest : List Oper} {N : Val → World → Prop} {Z : List PanicEntry → World → Prop} {f : Val} {w : World}
 {x y : Operand} {t ty : TypeId} {d : Nat} {pos : String} {after : Array Edge} {α : Type} {E : Enc α} {F : Nat → Prop}
end
end Go.Pn
end
section
namespace Go.Pn
open Go.RowKit
def keyI : Value → Int | .int _ a => a | _ => 0
def pairOf (e : MapEntry) : Int × Int := (keyI e.key, keyI e.val)
def IntE (e : MapEntry) : Prop := e.key = .int .i64 (keyI e.key) ∧ e.val = .int .i64 (keyI e.val)
structure Ents (ens : List MapEntry) (clock : Nat) (es : List (Int × Int)) : Prop where
 ints : ∀ e ∈ ens, IntE e
 pairs : ens.map pairOf = es
 old : ∀ e ∈ ens, e.born < clock
 born : (ens.map (·.born)).Nodup
 keys : (es.map (·.1)).Nodup
def MapO (w : World) (b : Nat) (es : List (Int × Int)) : Prop := ∃ (ens : Array MapEntry) (clock : Nat), w.heap[b]? = some (.map ens clock) ∧ Ents ens.toList clock es
def IterO (w : World) (r b : Nat) (es done : List (Int × Int)) : Prop := r ≠ b ∧ ∃ (ens : Array MapEntry) (clock : Nat) (seen : Array Nat) (ds : List MapEntry),
 w.heap[b]? = some (.map ens clock) ∧ Ents ens.toList clock es ∧ w.heap[r]? = some (.mapIter (some b) clock seen clock) ∧ seen.toList = ds.map (·.born) ∧ (∀ e ∈ ds, e ∈ ens.toList) ∧ (ds.map (·.born)).Nodup ∧ done = ds.map pairOf
section
variable {w w' : World} {b r : Nat} {es done : List (Int × Int)} {M : Nat → Prop}
theorem MapO.lt (h : MapO w b es) : b < w.heap.size := by obtain ⟨ens, clock, h1, _⟩ := h; exact lt_of_some h1
theorem MapO.keepM (h : MapO w b es) (e : Ext M w w') (hM : ¬ M b) : MapO w' b es := by
 have hl := h.lt
 obtain ⟨ens, clock, h1, h2⟩ := h
 exact ⟨ens, clock, (e.block b hl hM).trans h1, h2⟩
theorem MapO.keepO (h : MapO w b es) (e : Ext M w w') (hM : ¬ M b := by intro h; (try dsimp only at h); omega) : MapO w' b es := MapO.keepM h e hM
theorem MapO.keep (h : MapO w b es) (e : Le w w') : MapO w' b es := h.keepM e not_false
theorem MapO.keys (h : MapO w b es) : (es.map (·.1)).Nodup := by obtain ⟨ens, clock, _, h2⟩ := h; exact h2.keys
theorem IterO.lt (h : IterO w r b es done) : r < w.heap.size ∧ b < w.heap.size := by
 obtain ⟨_, ens, clock, seen, ds, h1, _, h3, _⟩ := h
 exact ⟨lt_of_some h3, lt_of_some h1⟩
theorem IterO.keepM (h : IterO w r b es done) (e : Ext M w w') (hM : ∀ k, (k = r ∨ k = b) → ¬ M k) : IterO w' r b es done := by
 have hl := h.lt
 obtain ⟨hn, ens, clock, seen, ds, h1, h2, h3, h4⟩ := h
 exact ⟨hn, ens, clock, seen, ds, (e.block b hl.2 (hM b (.inr rfl))).trans h1, h2, (e.block r hl.1 (hM r (.inl rfl))).trans h3, h4⟩
theorem IterO.keepA (h : IterO w r b es done) (e : Ext M w w') (hM : ∀ k, (k = r ∨ k = b) → ¬ M k := by intro k hk h; first | (have q := hF k hk; (try dsimp only at h); omega) | (have q := hF2 k hk; (try dsimp only at h); omega) | (have q := hFb k hk; (try dsimp only at h); omega) | ((try dsimp only at hk); (try dsimp only at h); omega)) : IterO w' r b es done := IterO.keepM h e hM
theorem IterO.keep (h : IterO w r b es done) (e : Le w w') : IterO w' r b es done := h.keepM e fun _ _ => not_false
theorem IterO.map (h : IterO w r b es done) : MapO w b es := by
 obtain ⟨hn, ens, clock, seen, ds, h1, h2, _⟩ := h
 exact ⟨ens, clock, h1, h2⟩
end
section
variable {P : Program} {n : Nat} {ops rest : List Oper} {N : Val → World → Prop} {Z : List PanicEntry → World → Prop} {f : Val} {w : World}
 {x y z : Operand} {t tr kt et : TypeId} {d : Nat} {pos : String} {after : Array Edge} {b r : Nat} {es done : List (Int × Int)} {k v : Int}
end
section
variable {P : Program} {n : Nat} {ops rest : List Oper} {N : Val → World → Prop} {Z : List PanicEntry → World → Prop} {f : Val} {w : World}
 {d : Nat} {x y : Operand} {t t' tr : TypeId} {pos : String} {after : Array Edge}
end
end Go.Pn
end
section
namespace Go.Pn
open Go.RowKit
def ItS (w : World) (b : Nat) (s : List UInt8) (k : Nat) : Prop := w.heap[b]? = some (.stringIter ⟨s.toArray⟩ k) ∧ k ≤ s.length
section
variable {w w' : World} {b k : Nat} {s : List UInt8} {M : Nat → Prop}
theorem ItS.lt (h : ItS w b s k) : b < w.heap.size := (Array.getElem?_eq_some_iff.1 h.1).1
theorem ItS.keepM (h : ItS w b s k) (e : Ext M w w') (hM : ¬ M b) : ItS w' b s k := ⟨(e.block b h.lt hM).trans h.1, h.2⟩
theorem ItS.keepO (h : ItS w b s k) (e : Ext M w w') (hM : ¬ M b := by intro h; (try dsimp only at h); omega) : ItS w' b s k := h.keepM e hM
theorem ItS.keep (h : ItS w b s k) (e : Le w w') : ItS w' b s k := h.keepM e not_false
end
section
variable {P : Program} {n : Nat} {ops rest : List Oper} {N : Val → World → Prop} {Z : List PanicEntry → World → Prop} {f : Val} {w : World}
 {x : Operand} {t tr ty : TypeId} {pos : String} {after : Array Edge} {d b k : Nat} {s : List UInt8}
end
end Go.Pn
end
section
end
section
namespace Go.Pn
open Go.RowKit
theorem Sl.fresh {w : World} {F : Nat → Prop} {v : Value} {xs : List UInt8} {B : Nat} (h : Sl byteE w F v xs) (hF : ∀ j, F j → B ≤ j) : Sl byteE w (fun j => B ≤ j ∧ j < w.heap.size) v xs := by
 obtain ⟨h1, h2 | ⟨b, off, cap, cur, ty, fr, e, hb, hh, rest⟩⟩ := h
 ·exact ⟨h1, .inl h2⟩
 ·exact ⟨h1, .inr ⟨b, off, cap, cur, ty, fr, e, ⟨hF b hb, lt_of_some hh⟩, hh, rest⟩⟩
theorem OwnF.ne_own {α : Type} {G : Flat α} {ty ty' : TypeId} {B b : Nat} {w : World} {v : Value} {xs : List α} {cs : List Value} (h : OwnF G ty B w v xs) (o : Own w b ty' cs) (hne : ty ≠ ty') : ∀ j, bk v j → j ≠ b := by
 rintro j hj rfl
 obtain ⟨fr, ho, _⟩ := o
 rcases h.1.2 with ⟨rfl, _⟩ | ⟨g, cap, cur, rfl, _, hg, _⟩
 ·exact hj
 ·have e : j = g := hj
  subst e
  have := hg.symm.trans ho
  injection this with h1
  injection h1 with _ h2 _
  exact hne h2
theorem OwnF.apart {α β : Type} {G : Flat α} {G2 : Flat β} {ty ty2 : TypeId} {B B2 : Nat} {w : World} {v v2 : Value} {xs : List α} {ys : List β} (h : OwnF G ty B w v xs) (h2 : OwnF G2 ty2 B2 w v2 ys) (hne : ty ≠ ty2) : ∀ j, bk v j → ¬ bk v2 j := by
 intro j hj hj2
 rcases h2.1.2 with ⟨rfl, _⟩ | ⟨g, cap, cur, rfl, _, hg, hrest⟩
 ·exact hj2
 ·have e : j = g := hj2
  subst e
  exact h.ne_own ⟨(0, 0), by simpa using hg, .inl rfl⟩ hne _ hj rfl
section
variable {P : Program} {n : Nat} {ops rest : List Oper} {N : Val → World → Prop} {Z : List PanicEntry → World → Prop} {f : Val} {w : World}
 {d : Nat} {x y : Operand} {t t' ty : TypeId} {pos : String} {after : Array Edge}
end
end Go.Pn
end
section
namespace Go.Pn
section
variable {α β : Type} {E : Enc α} {G : Flat β} {w : World} {F : Nat → Prop} {v : Value} {xs : List α}
theorem Sl.raws {R : β → α → Prop} (hs : E.sz = G.sz) (hr : ∀ cs x, E.rep w F cs x → ∃ r, cs = G.e r ∧ R r x) (h : Sl E w F v xs) : ∃ rs : List β, Sl G.enc w F v rs ∧ rs.length = xs.length ∧ ∀ i, ∀ h : i < rs.length, ∀ h' : i < xs.length, R rs[i] xs[i] := by
 obtain ⟨hm, h⟩ := h
 rcases h with ⟨a, rfl, rfl⟩ | ⟨b, off, cap, cur, ty, fr, rfl, hF, hb, h1, h2, h3, hx⟩
 ·exact ⟨[], ⟨hm, .inl ⟨a, rfl, rfl⟩⟩, rfl, fun i h => absurd h (by simp)⟩
 ·have hc : ∀ i : Fin xs.length, ∃ r, (cur.toList.drop (off + i.val * E.sz)).take E.sz = G.e r ∧ R r xs[i.val] := fun i => hr _ _ (hx i.val i.isLt)
  obtain ⟨f, hf⟩ := Classical.axiomOfChoice hc
  have hl : (List.ofFn f).length = xs.length := List.length_ofFn
  refine ⟨List.ofFn f, ⟨by rw [hl]; exact hm, .inr ⟨b, off, cap, cur, ty, fr, by rw [hl], hF, hb, by rw [hl]; exact h1, h2, fun hp => ?_, fun i hi => ?_⟩⟩, hl, fun i hi hi' => ?_⟩
  ·have := h3 (by rw [hl] at hp; exact hp)
   rw [hs] at this
   exact this
  ·rw [List.getElem_ofFn]
   have := (hf ⟨i, by rw [hl] at hi; exact hi⟩).1
   rw [hs] at this
   exact this
  ·rw [List.getElem_ofFn]
   exact (hf ⟨i, hi'⟩).2
theorem Sl.ofRaws {rs : List β} (hs : E.sz = G.sz) (hl : rs.length = xs.length) (hr : ∀ i, ∀ h : i < rs.length, ∀ h' : i < xs.length, E.rep w F (G.e rs[i]) xs[i]) (h : Sl G.enc w F v rs) : Sl E w F v xs := by
 obtain ⟨hm, h⟩ := h
 rcases h with ⟨a, rfl, rfl⟩ | ⟨b, off, cap, cur, ty, fr, rfl, hF, hb, h1, h2, h3, hx⟩
 ·have : xs = [] := List.eq_nil_of_length_eq_zero hl.symm
  subst this
  exact ⟨hm, .inl ⟨a, rfl, rfl⟩⟩
 ·refine ⟨by rw [← hl]; exact hm, .inr ⟨b, off, cap, cur, ty, fr, by rw [hl], hF, hb, by rw [← hl]; exact h1, h2, fun hp => ?_, fun i hi => ?_⟩⟩
  ·have := h3 (by rw [hl]; exact hp)
   rw [hs]
   exact this
  ·have := hx i (by rw [hl]; exact hi)
   have h5 := hr i (by rw [hl]; exact hi) hi
   rw [hs]
   rw [show (cur.toList.drop (off + i * G.sz)).take G.sz = G.e rs[i] from this]
   exact h5
end
section
variable {w : World} {F : Nat → Prop} {v : Value} {l : List ItemT} {tm ti : TypeId}
theorem Sl.items (h : Sl itemE w F v l) : ∃ raw, Sl itemF.enc w F v raw ∧ Items w F raw l := by
 obtain ⟨rs, h1, h2, h3⟩ := Sl.raws (G := itemF) (R := fun r x => r.1 = x.1 ∧ Sl markF.enc w F (Go.Pn.slv r.2) x.2) rfl (fun cs x hr => by
  obtain ⟨vm, rfl, hm⟩ := hr
  obtain ⟨a, rfl⟩ := hm.slv
  exact ⟨(x.1, a), rfl, rfl, hm⟩) h
 exact ⟨rs, h1, h2, h3⟩
def ItemsK (tm : TypeId) (w : World) (F : Nat → Prop) (k : Nat) (raw : List (List UInt8 × Raw)) (l : List ItemT) : Prop :=
 raw.length = l.length ∧ ∀ i, ∀ h : i < raw.length, ∀ h' : i < l.length, raw[i].1 = l[i].1 ∧ (i < k → Fre markF tm w F (slv raw[i].2) l[i].2)
theorem ItemsK.keepM {M : Nat → Prop} {w' : World} {k : Nat} {raw : List (List UInt8 × Raw)} (h : ItemsK tm w F k raw l) (e : Ext M w w') (hM : ∀ k, F k → ¬ M k) : ItemsK tm w' F k raw l :=
 ⟨h.1, fun i h1 h2 => ⟨(h.2 i h1 h2).1, fun hk => ((h.2 i h1 h2).2 hk).keepM e hM⟩⟩
theorem ItemsK.keepA {M : Nat → Prop} {w' : World} {k : Nat} {raw : List (List UInt8 × Raw)} (h : ItemsK tm w F k raw l) (e : Ext M w w') (hM : ∀ k, F k → ¬ M k := by intro k hk h; first | (have q := hF k hk; (try dsimp only at h); omega) | (have q := hF2 k hk; (try dsimp only at h); omega) | (have q := hFb k hk; (try dsimp only at h); omega) | ((try dsimp only at hk); (try dsimp only at h); omega)) : ItemsK tm w' F k raw l := ItemsK.keepM h e hM
theorem ItemsK.keep {w' : World} {k : Nat} {raw : List (List UInt8 × Raw)} (h : ItemsK tm w F k raw l) (e : Le w w') : ItemsK tm w' F k raw l := h.keepM e fun _ _ => not_false
theorem ItemsK.weak {F' : Nat → Prop} {k : Nat} {raw : List (List UInt8 × Raw)} (h : ItemsK tm w F k raw l) (hF : ∀ k, F k → F' k) : ItemsK tm w F' k raw l :=
 ⟨h.1, fun i h1 h2 => ⟨(h.2 i h1 h2).1, fun hk => ((h.2 i h1 h2).2 hk).weak hF⟩⟩
theorem ItemsK.weakA {F' : Nat → Prop} {k : Nat} {raw : List (List UInt8 × Raw)} (h : ItemsK tm w F k raw l) (hF : ∀ k, F k → F' k := by intro q hq; (try dsimp only at hq); (try dsimp only); omega) : ItemsK tm w F' k raw l := ItemsK.weak h hF
theorem Items.k0 {raw : List (List UInt8 × Raw)} {F' : Nat → Prop} (h : Items w F raw l) : ItemsK tm w F' 0 raw l := ⟨h.1, fun i h1 h2 => ⟨(h.2 i h1 h2).1, fun hk => absurd hk (Nat.not_lt_zero _)⟩⟩
theorem ItemsK.set {k : Nat} {raw : List (List UInt8 × Raw)} (h : ItemsK tm w F k raw l) (hk : k < raw.length) (hk' : k < l.length) {p : Raw} (hm : Fre markF tm w F (slv p) l[k].2) : ItemsK tm w F (k + 1) (raw.set k (raw[k].1, p)) l := by
 refine ⟨by rw [List.length_set]; exact h.1, fun i h1 h2 => ?_⟩
 rw [List.length_set] at h1
 rw [List.getElem_set]
 split
 ·rename_i e
  subst e
  exact ⟨(h.2 k hk hk').1, fun _ => hm⟩
 ·rename_i e
  exact ⟨(h.2 i h1 h2).1, fun q => (h.2 i h1 h2).2 (by omega)⟩
theorem ItemsK.all {raw : List (List UInt8 × Raw)} {k : Nat} (h : ItemsK tm w F k raw l) (hk : l.length ≤ k) : ItemsF tm w F raw l := ⟨h.1, fun i h1 h2 => ⟨(h.2 i h1 h2).1, (h.2 i h1 h2).2 (by omega)⟩⟩
end
end Go.Pn
end
section
namespace Go.Pn
abbrev CartT := (List Dt.Dot × List Dt.Dot) × List ItemT
abbrev EntT := List UInt8 × CartT
abbrev EntR := List UInt8 × ((Raw × Raw) × Raw)
def cartE : Enc CartT := prE (prE (slE Dt.dotF.enc) (slE Dt.dotF.enc)) (slE itemE)
def entE : Enc EntT := prE strF.enc cartE
def entF : Flat EntR := ⟨4, fun x => [str x.1, slv x.2.1.1, slv x.2.1.2, slv x.2.2], fun _ => rfl, by simp [Value.oneCell', str, slv], by decide⟩
def CartAt (w : World) (F : Nat → Prop) (r : (Raw × Raw) × Raw) (c : CartT) : Prop := Sl Dt.dotF.enc w F (slv r.1.1) c.1.1 ∧ Sl Dt.dotF.enc w F (slv r.1.2) c.1.2 ∧ Sl itemE w F (slv r.2) c.2
section
variable {w w' : World} {F F' M : Nat → Prop} {r : (Raw × Raw) × Raw} {c : CartT}
theorem CartAt.keepM (h : CartAt w F r c) (e : Ext M w w') (hM : ∀ k, F k → ¬ M k) : CartAt w' F r c := ⟨h.1.keepM e hM, h.2.1.keepM e hM, h.2.2.keepM e hM⟩
theorem CartAt.keepA (h : CartAt w F r c) (e : Ext M w w') (hM : ∀ k, F k → ¬ M k := by intro k hk h; first | (have q := hF k hk; (try dsimp only at h); omega) | (have q := hF2 k hk; (try dsimp only at h); omega) | (have q := hFb k hk; (try dsimp only at h); omega) | ((try dsimp only at hk); (try dsimp only at h); omega)) : CartAt w' F r c := CartAt.keepM h e hM
theorem CartAt.keep (h : CartAt w F r c) (e : Le w w') : CartAt w' F r c := h.keepM e fun _ _ => not_false
theorem CartAt.weak (h : CartAt w F r c) (hF : ∀ k, F k → F' k) : CartAt w F' r c := ⟨h.1.weak hF, h.2.1.weak hF, h.2.2.weak hF⟩
theorem CartAt.weakA (h : CartAt w F r c) (hF : ∀ k, F k → F' k := by intro q hq; (try dsimp only at hq); (try dsimp only); omega) : CartAt w F' r c := CartAt.weak h hF
end
def EntL (w : World) (F : Nat → Prop) (raw : List EntR) (l : List EntT) : Prop := raw.length = l.length ∧ ∀ i, ∀ h : i < raw.length, ∀ h' : i < l.length, raw[i].1 = l[i].1 ∧ CartAt w F raw[i].2 l[i].2
section
variable {w w' : World} {F F' M : Nat → Prop} {raw : List EntR} {l : List EntT} {v : Value}
theorem EntL.nil : EntL w F [] [] := ⟨rfl, fun i h => by simp at h⟩
theorem EntL.at {k : Nat} (h : EntL w F raw l) (hk : k < l.length) : ∃ (h9 : k < raw.length) (r : EntR) (x : EntT), r = raw[k] ∧ x = l[k] ∧ r.1 = x.1 ∧ CartAt w F r.2 x.2 := ⟨by have := h.1; omega, raw[k]'(by have := h.1; omega), l[k], rfl, rfl, h.2 k (by have := h.1; omega) hk⟩
theorem EntL.keepM (h : EntL w F raw l) (e : Ext M w w') (hM : ∀ k, F k → ¬ M k) : EntL w' F raw l := ⟨h.1, fun i h1 h2 => ⟨(h.2 i h1 h2).1, (h.2 i h1 h2).2.keepM e hM⟩⟩
theorem EntL.keepA (h : EntL w F raw l) (e : Ext M w w') (hM : ∀ k, F k → ¬ M k := by intro k hk h; first | (have q := hF k hk; (try dsimp only at h); omega) | (have q := hF2 k hk; (try dsimp only at h); omega) | (have q := hFb k hk; (try dsimp only at h); omega) | ((try dsimp only at hk); (try dsimp only at h); omega)) : EntL w' F raw l := EntL.keepM h e hM
theorem EntL.keep (h : EntL w F raw l) (e : Le w w') : EntL w' F raw l := h.keepM e fun _ _ => not_false
theorem EntL.weak (h : EntL w F raw l) (hF : ∀ k, F k → F' k) : EntL w F' raw l := ⟨h.1, fun i h1 h2 => ⟨(h.2 i h1 h2).1, (h.2 i h1 h2).2.weak hF⟩⟩
theorem EntL.weakA (h : EntL w F raw l) (hF : ∀ k, F k → F' k := by intro q hq; (try dsimp only at hq); (try dsimp only); omega) : EntL w F' raw l := EntL.weak h hF
theorem EntL.snoc {a : EntR} {x : EntT} (h : EntL w F raw l) (hn : a.1 = x.1) (hm : CartAt w F a.2 x.2) : EntL w F (raw ++ [a]) (l ++ [x]) := by
 refine ⟨by simp [h.1], fun i h1 h2 => ?_⟩
 have hl := h.1
 simp only [List.length_append, List.length_cons, List.length_nil] at h1
 by_cases hi : i < raw.length
 ·rw [List.getElem_append_left hi, List.getElem_append_left (by omega)]
  exact h.2 i hi (by omega)
 ·have e1 : i = raw.length := by omega
  subst e1
  rw [List.getElem_append_right (by omega), List.getElem_append_right (by omega)]
  simp only [Nat.sub_self, hl, List.getElem_cons_zero]
  exact ⟨hn, hm⟩
theorem Sl.ents (h : Sl entE w F v l) : ∃ raw, Sl entF.enc w F v raw ∧ EntL w F raw l := by
 obtain ⟨rs, h1, h2, h3⟩ := Sl.raws (G := entF) (R := fun r x => r.1 = x.1 ∧ CartAt w F r.2 x.2) rfl (fun cs x hr => by
  obtain ⟨_, _, rfl, hs, _, _, rfl, ⟨_, _, rfl, ⟨va, rfl, hx⟩, vb, rfl, hy⟩, vc, rfl, hz⟩ := hr
  obtain ⟨a1, rfl⟩ := hx.slv
  obtain ⟨a2, rfl⟩ := hy.slv
  obtain ⟨a3, rfl⟩ := hz.slv
  have hs2 : _ = [str x.1] := hs
  subst hs2
  exact ⟨(x.1, (a1, a2), a3), rfl, rfl, hx, hy, hz⟩) h
 exact ⟨rs, h1, h2, h3⟩
theorem EntL.sl (h : EntL w F raw l) (hv : Sl entF.enc w F v raw) : Sl entE w F v l := by
 refine Sl.ofRaws rfl h.1 (fun i h1 h2 => ?_) hv
 obtain ⟨e, hx, hy, hz⟩ := h.2 i h1 h2
 refine ⟨[str raw[i].1], [slv raw[i].2.1.1, slv raw[i].2.1.2, slv raw[i].2.2], rfl, by rw [e]; rfl, [slv raw[i].2.1.1, slv raw[i].2.1.2], [slv raw[i].2.2], rfl, ⟨[slv raw[i].2.1.1], [slv raw[i].2.1.2], rfl, ⟨_, rfl, hx⟩, _, rfl, hy⟩, _, rfl, hz⟩
end
end Go.Pn
end
section
namespace Go.Pn
def CartF (td ti tm : TypeId) (w : World) (F : Nat → Prop) (r : (Raw × Raw) × Raw) (c : CartT) : Prop := Fre Dt.dotF td w F (slv r.1.1) c.1.1 ∧ Fre Dt.dotF td w F (slv r.1.2) c.1.2 ∧ SlI ti tm w F (slv r.2) c.2
section
variable {td ti tm te : TypeId} {w w' : World} {F F' M G G' : Nat → Prop} {r : (Raw × Raw) × Raw} {c : CartT}
theorem CartF.keepM (h : CartF td ti tm w F r c) (e : Ext M w w') (hM : ∀ k, F k → ¬ M k) : CartF td ti tm w' F r c := ⟨h.1.keepM e hM, h.2.1.keepM e hM, h.2.2.keepM e hM⟩
theorem CartF.keepA (h : CartF td ti tm w F r c) (e : Ext M w w') (hM : ∀ k, F k → ¬ M k := by intro k hk h; first | (have q := hF k hk; (try dsimp only at h); omega) | (have q := hF2 k hk; (try dsimp only at h); omega) | (have q := hFb k hk; (try dsimp only at h); omega) | ((try dsimp only at hk); (try dsimp only at h); omega)) : CartF td ti tm w' F r c := CartF.keepM h e hM
theorem CartF.keep (h : CartF td ti tm w F r c) (e : Le w w') : CartF td ti tm w' F r c := h.keepM e fun _ _ => not_false
theorem CartF.weak (h : CartF td ti tm w F r c) (hF : ∀ k, F k → F' k) : CartF td ti tm w F' r c := ⟨h.1.weak hF, h.2.1.weak hF, h.2.2.weak hF⟩
theorem CartF.weakA (h : CartF td ti tm w F r c) (hF : ∀ k, F k → F' k := by intro q hq; (try dsimp only at hq); (try dsimp only); omega) : CartF td ti tm w F' r c := CartF.weak h hF
theorem CartF.cart (h : CartF td ti tm w F r c) : CartAt w F r c := ⟨h.1.sl, h.2.1.sl, h.2.2.sl⟩
def EntsD (td ti tm : TypeId) (w : World) (G : Nat → Prop) (lo hi : Nat) (raw : List EntR) (l : List EntT) : Prop :=
 raw.length = l.length ∧ ∃ b : Nat → Nat, (lo ≤ b 0 ∧ b l.length ≤ hi) ∧ (∀ i, b i ≤ b (i + 1)) ∧ ∀ i, ∀ h : i < raw.length, ∀ h' : i < l.length, raw[i].1 = l[i].1 ∧ CartF td ti tm w (fun j => G j ∧ b i ≤ j ∧ j < b (i + 1)) raw[i].2 l[i].2
variable {raw : List EntR} {l : List EntT} {lo hi : Nat} {v : Value}
theorem mono_of {b : Nat → Nat} (h : ∀ i, b i ≤ b (i + 1)) {i j : Nat} (hij : i ≤ j) : b i ≤ b j := by
 induction hij with
 | refl => exact Nat.le_refl _
 | step _ ih => exact Nat.le_trans ih (h _)
theorem EntsD.nil (h : lo ≤ hi) : EntsD td ti tm w G lo hi [] [] := ⟨rfl, fun _ => lo, ⟨Nat.le_refl _, h⟩, fun _ => Nat.le_refl _, fun i h => by simp at h⟩
theorem EntsD.keepM (h : EntsD td ti tm w G lo hi raw l) (e : Ext M w w') (hM : ∀ k, G k → lo ≤ k → k < hi → ¬ M k) : EntsD td ti tm w' G lo hi raw l := by
 obtain ⟨h0, b, ⟨h1, h2⟩, h3, h4⟩ := h
 refine ⟨h0, b, ⟨h1, h2⟩, h3, fun i k1 k2 => ⟨(h4 i k1 k2).1, (h4 i k1 k2).2.keepM e fun k hk => hM k hk.1 ?_ ?_⟩⟩
 ·have := mono_of h3 (Nat.zero_le i); omega
 ·have := mono_of h3 (show i + 1 ≤ l.length by omega); omega
theorem EntsD.keepA (h : EntsD td ti tm w G lo hi raw l) (e : Ext M w w') (hM : ∀ k, G k → lo ≤ k → k < hi → ¬ M k := by intro k hk h; first | (have q := hF k hk; (try dsimp only at h); omega) | (have q := hF2 k hk; (try dsimp only at h); omega) | (have q := hFb k hk; (try dsimp only at h); omega) | ((try dsimp only at hk); (try dsimp only at h); omega)) : EntsD td ti tm w' G lo hi raw l := EntsD.keepM h e hM
theorem EntsD.keep (h : EntsD td ti tm w G lo hi raw l) (e : Le w w') : EntsD td ti tm w' G lo hi raw l := h.keepM e fun _ _ _ _ => not_false
theorem EntsD.weak (h : EntsD td ti tm w G lo hi raw l) (hG : ∀ k, lo ≤ k → k < hi → G k → G' k) : EntsD td ti tm w G' lo hi raw l := by
 obtain ⟨h0, b, ⟨h1, h2⟩, h3, h4⟩ := h
 refine ⟨h0, b, ⟨h1, h2⟩, h3, fun i k1 k2 => ⟨(h4 i k1 k2).1, (h4 i k1 k2).2.weak fun k hk => ⟨hG k ?_ ?_ hk.1, hk.2⟩⟩⟩
 ·have := mono_of h3 (Nat.zero_le i); omega
 ·have := mono_of h3 (show i + 1 ≤ l.length by omega); omega
theorem EntsD.snoc {a : EntR} {x : EntT} {hi' : Nat} (h : EntsD td ti tm w G lo hi raw l) (hh : hi ≤ hi') (hn : a.1 = x.1) (hm : CartF td ti tm w (fun j => G j ∧ hi ≤ j ∧ j < hi') a.2 x.2) : EntsD td ti tm w G lo hi' (raw ++ [a]) (l ++ [x]) := by
 obtain ⟨h0, b, ⟨k1, k2⟩, h3, h4⟩ := h
 refine ⟨by simp [h0], fun i => if i < l.length + 1 then b i else hi', ⟨?_, ?_⟩, fun i => ?_, fun i h1 h2 => ?_⟩
 ·show lo ≤ if 0 < l.length + 1 then b 0 else hi'
  rw [if_pos (by omega)]; exact k1
 ·show (if (l ++ [x]).length < l.length + 1 then _ else _) ≤ _
  rw [if_neg (by simp)]
  exact Nat.le_refl _
 ·show (if i < l.length + 1 then b i else hi') ≤ if i + 1 < l.length + 1 then b (i + 1) else hi'
  by_cases hi1 : i + 1 < l.length + 1
  ·rw [if_pos (by omega), if_pos hi1]; exact h3 i
  ·rw [if_neg hi1]
   by_cases hi2 : i < l.length + 1
   ·rw [if_pos hi2]
    have : i = l.length := by omega
    subst this
    omega
   ·rw [if_neg hi2]; exact Nat.le_refl _
 ·simp only [List.length_append, List.length_cons, List.length_nil] at h1 h2
  by_cases hi1 : i < raw.length
  ·rw [List.getElem_append_left hi1, List.getElem_append_left (by omega)]
   refine ⟨(h4 i hi1 (by omega)).1, (h4 i hi1 (by omega)).2.weak fun k hk => ?_⟩
   show G k ∧ (if i < l.length + 1 then b i else hi') ≤ k ∧ k < if i + 1 < l.length + 1 then b (i + 1) else hi'
   rw [if_pos (by omega), if_pos (by omega)]
   exact hk
  ·have e1 : i = raw.length := by omega
   subst e1
   rw [List.getElem_append_right (by omega), List.getElem_append_right (by omega)]
   simp only [Nat.sub_self, h0, List.getElem_cons_zero]
   refine ⟨hn, hm.weak fun k hk => ?_⟩
   show G k ∧ (if l.length < l.length + 1 then b l.length else hi') ≤ k ∧ k < if l.length + 1 < l.length + 1 then b (l.length + 1) else hi'
   rw [if_pos (by omega), if_neg (by omega)]
   exact ⟨hk.1, by omega, hk.2.2⟩
theorem EntsD.ents (h : EntsD td ti tm w G lo hi raw l) : EntL w (fun j => G j ∧ lo ≤ j ∧ j < hi) raw l := by
 obtain ⟨h0, b, ⟨k1, k2⟩, h3, h4⟩ := h
 refine ⟨h0, fun i h1 h2 => ⟨(h4 i h1 h2).1, ((h4 i h1 h2).2.cart).weak fun k hk => ⟨hk.1, ?_, ?_⟩⟩⟩
 ·have := mono_of h3 (Nat.zero_le i); omega
 ·have := mono_of h3 (show i + 1 ≤ l.length by omega); omega
def SlE (te td ti tm : TypeId) (w : World) (lo hi : Nat) (v : Value) (l : List EntT) : Prop := ∃ raw, Fre entF te w (fun j => lo ≤ j ∧ j < hi) v raw ∧ EntsD td ti tm w (fun j => ¬ bk v j) lo hi raw l
theorem SlE.nil (te td ti tm : TypeId) (w : World) {lo hi : Nat} (h : lo ≤ hi) : SlE te td ti tm w lo hi (.slice none 0 0) [] := ⟨[], Fre.nil _ _ _ _, EntsD.nil h⟩
theorem SlE.keepM (h : SlE te td ti tm w lo hi v l) (e : Ext M w w') (hM : ∀ k, lo ≤ k → k < hi → ¬ M k) : SlE te td ti tm w' lo hi v l := by
 obtain ⟨raw, h1, h2⟩ := h
 exact ⟨raw, h1.keepM e fun k hk => hM k hk.1 hk.2, h2.keepM e fun k _ => hM k⟩
theorem SlE.keepA (h : SlE te td ti tm w lo hi v l) (e : Ext M w w') (hM : ∀ k, lo ≤ k → k < hi → ¬ M k := by intro k hk h; first | (have q := hF k hk; (try dsimp only at h); omega) | (have q := hF2 k hk; (try dsimp only at h); omega) | (have q := hFb k hk; (try dsimp only at h); omega) | ((try dsimp only at hk); (try dsimp only at h); omega)) : SlE te td ti tm w' lo hi v l := SlE.keepM h e hM
theorem SlE.keep (h : SlE te td ti tm w lo hi v l) (e : Le w w') : SlE te td ti tm w' lo hi v l := h.keepM e fun _ _ _ => not_false
theorem SlE.sl (h : SlE te td ti tm w lo hi v l) : Sl entE w (fun j => lo ≤ j ∧ j < hi) v l := by
 obtain ⟨raw, h1, h2⟩ := h
 exact (h2.ents.weak fun k hk => hk.2).sl h1.sl
theorem EntL.append {raw' : List EntR} {l' : List EntT} (h : EntL w F raw l) (h' : EntL w F raw' l') : EntL w F (raw ++ raw') (l ++ l') := by
 refine ⟨by rw [List.length_append, List.length_append, h.1, h'.1], fun i h1 h2 => ?_⟩
 have e0 := h.1
 simp only [List.length_append] at h1 h2
 by_cases hi : i < raw.length
 ·rw [List.getElem_append_left hi, List.getElem_append_left (by omega)]; exact h.2 i hi (by omega)
 ·rw [List.getElem_append_right (by omega), List.getElem_append_right (by omega)]
  have := h'.2 (i - raw.length) (by omega) (by rw [← h'.1]; omega)
  simp only [e0] at this ⊢
  exact this
end
end Go.Pn
end
section
namespace Go.Pn
open Go.RowKit
def bare (w : World) : World := { w with heap := #[] }
theorem Ext.bare {M : Nat → Prop} {w w' : World} (h : Ext M w w') : Le (Go.Pn.bare w) w' := ⟨h.os, h.tape, h.output, Nat.zero_le _, fun _ hk _ => absurd hk (Nat.not_lt_zero _)⟩
section
variable {P : Program} {n : Nat} {ops rest : List Oper} {N : Val → World → Prop} {Z : List PanicEntry → World → Prop} {f : Val} {w : World}
 {d : Nat} {x y : Operand} {t t' tn ty tr e : TypeId} {pos : String} {after : Array Edge} {α : Type} {G : Flat α} {F : Nat → Prop}
end
open Go.Lib
section
variable {P : Program} {n : Nat} {ops rest : List Oper} {N : Val → World → Prop} {Z : List PanicEntry → World → Prop} {f : Val} {w : World}
 {d : Nat} {x y : Operand} {t t' tn ty tr e : TypeId} {pos : String} {after : Array Edge} {α : Type} {F : Nat → Prop}
end
def sliE {α : Type} (E : Enc α) : Enc (List α) where
 sz := 1
 rep := fun w F cs xs => ∃ v, cs = [v] ∧ Sl E w F v xs
 len := by rintro w F cs x ⟨v, rfl, _⟩; rfl
 one := by
  rintro w F cs x ⟨v, rfl, h⟩ c hc
  obtain rfl : c = v := by simpa using hc
  exact h.oneC
 ext := by rintro w w' F cs x ⟨v, rfl, h⟩ hw; exact ⟨v, rfl, h.ext hw⟩
 weak := by rintro w F F' cs x ⟨v, rfl, h⟩ hF; exact ⟨v, rfl, h.weak hF⟩
section
variable {P : Program} {n : Nat} {ops rest : List Oper} {N : Val → World → Prop} {Z : List PanicEntry → World → Prop} {f : Val} {w : World}
 {d : Nat} {x y : Operand} {t tr e : TypeId} {pos : String} {after : Array Edge} {α : Type} {E : Enc α} {F : Nat → Prop}
end
theorem OwnF.lit1 {α : Type} {G : Flat α} {ty : TypeId} {B : Nat} {w : World} {b : Nat} {u : Value} {x : α} (hs : G.sz = 1) (h : Own0 w b ty [u]) (hu : G.e x = [u]) (hB : B ≤ b) : OwnF G ty B w (.slice (some ⟨b, 0, none⟩) 1 1) [x] := by
 refine ⟨⟨by rw [G.length], .inr ⟨b, 1, #[u], rfl, hB, h, by simp, by unfold maxLen; omega, by simp [hs], ?_⟩⟩, by unfold maxLen; simp⟩
 simp [hs, hu]
end Go.Pn
end
section
namespace Go.Pn
open Go.RowKit
def OG {α : Type} (G : Flat α) (ty : TypeId) (w : World) (v : Value) (g : Nat) (xs : List α) : Prop := OwnF G ty 0 w v xs ∧ (∀ k, bk v k → k = g) ∧ g < w.heap.size
section
variable {α : Type} {G : Flat α} {ty : TypeId} {w w' : World} {v : Value} {g B : Nat} {xs ys : List α}
theorem OG.keepM {M : Nat → Prop} (h : OG G ty w v g xs) (e : Ext M w w') (hM : ∀ k, k = g → ¬ M k) : OG G ty w' v g xs := ⟨h.1.keepM e fun k hk => hM k (h.2.1 k hk), h.2.1, e.lt h.2.2⟩
theorem OG.keepA {M : Nat → Prop} (h : OG G ty w v g xs) (e : Ext M w w') (hM : ∀ k, k = g → ¬ M k := by intro k hk h; first | (have q := hF k hk; (try dsimp only at h); omega) | (have q := hF2 k hk; (try dsimp only at h); omega) | (have q := hFb k hk; (try dsimp only at h); omega) | ((try dsimp only at hk); (try dsimp only at h); omega)) : OG G ty w' v g xs := OG.keepM h e hM
theorem OG.keep (h : OG G ty w v g xs) (e : Le w w') : OG G ty w' v g xs := h.keepM e fun _ _ => not_false
theorem OG.of (h : OwnF G ty B w v xs) (hne : 0 < xs.length) : ∃ g, OG G ty w v g xs ∧ B ≤ g := by
 obtain ⟨g, cap, cs, rfl, _, _, _, _, _, hB⟩ := h.block hne
 exact ⟨g, ⟨h.low (Nat.zero_le _), fun k hk => hk, (h.bk_ge g rfl).2⟩, hB⟩
theorem OG.sl (h : OG G ty w v g xs) : Sl G.enc w (fun k => k = g) v xs := h.1.sl.weak h.2.1
theorem OG.bk (h : OG G ty w v g xs) (hne : 0 < xs.length) : Go.Pn.bk v g := by
 obtain ⟨g', cap, cs, rfl, _⟩ := h.1.block hne
 obtain rfl := h.2.1 g' rfl
 exact rfl
theorem OG.own (h : OG G ty w v g xs) (hB : B ≤ g) : OwnF G ty B w v xs := by
 refine ⟨⟨h.1.1.1, ?_⟩, h.1.2⟩
 rcases h.1.1.2 with hn | ⟨g', cap, cur, rfl, _, rest⟩
 ·exact .inl hn
 ·have e : g' = g := h.2.1 g' rfl
  exact .inr ⟨g', cap, cur, rfl, by omega, rest⟩
end
section
variable {P : Program} {n : Nat} {ops rest : List Oper} {N : Val → World → Prop} {Z : List PanicEntry → World → Prop} {f : Val} {w : World}
 {d : Nat} {x y : Operand} {t t' ty tr e : TypeId} {pos : String} {after : Array Edge} {α : Type} {G : Flat α} {F : Nat → Prop}
end
theorem OG.nil {α : Type} {G : Flat α} {ty : TypeId} {w : World} {g : Nat} (h : g < w.heap.size) : OG G ty w (.slice none 0 0) g [] := ⟨OwnF.nil _ _ _ _, fun _ h => h.elim, h⟩
theorem At.raw {w : World} {F : Nat → Prop} {a : Addr} {z : ItemT} (h : At itemE w F a z) : ∃ s, At itemF.enc w F a (z.1, s) ∧ Sl markF.enc w F (slv s) z.2 := by
 obtain ⟨b, off, cur, ty, fr, rfl, hF, hb, hs, v, hv, hm⟩ := h
 obtain ⟨s, rfl⟩ := hm.slv
 exact ⟨s, ⟨b, off, cur, ty, fr, rfl, hF, hb, hs, hv⟩, hm⟩
end Go.Pn
end
section
namespace Go.Pn
open Go.RowKit
section
variable {P : Program} {n : Nat} {ops rest : List Oper} {N : Val → World → Prop} {Z : List PanicEntry → World → Prop} {f : Val} {w : World}
 {d : Nat} {x y : Operand} {t ty tr e : TypeId} {pos : String} {after : Array Edge} {α : Type} {G : Flat α} {F : Nat → Prop}
theorem Own0.whole {b c : Nat} {ys zs : List α} (h : Own0 w b e ((ys ++ zs).flatMap G.e)) (hc : ys.length + zs.length = c) (hm : c ≤ maxLen) : Sl G.enc w (fun k => k = b) (.slice (some ⟨b, 0, none⟩) c c) (ys ++ zs) := by
 have hl : (ys ++ zs).length = c := by rw [List.length_append, hc]
 have := Sl.of_own (xs := ys ++ zs) (cap := c) h.own (by rw [← G.length, List.take_length]) (by omega) hm (by rw [G.length, hl]; exact Nat.le_refl _)
 rwa [hl] at this
end
end Go.Pn
end
section
namespace Go.Pn
section
variable {P : Program} {n : Nat} {ops rest : List Oper} {N : Val → World → Prop} {Z : List PanicEntry → World → Prop} {f : Val} {w : World}
end
section
variable {P : Program} {n : Nat} {ops rest : List Oper} {N : Val → World → Prop} {Z : List PanicEntry → World → Prop} {f : Val} {w : World}
 {d : Nat} {x y : Operand} {t t' ty : TypeId} {pos : String} {after : Array Edge} {a b : Int} {k : IntKind}
end
end Go.Pn
end
section
namespace Go.Pn
section
variable {P : Program} {n : Nat} {N : Val → World → Prop} {X : Nat → Val → World → Prop} {R : Val → World → Prop} {Z : List PanicEntry → World → Prop} {f : Val} {w : World} {c : Code}
end
section
variable {P : Program} {n : Nat} {ops rest : List Oper} {N : Val → World → Prop} {Z : List PanicEntry → World → Prop} {f : Val} {w : World}
 {d : Nat} {x y : Operand} {t t' ty : TypeId} {pos : String} {after : Array Edge} {a b : Int} {k : IntKind}
end
def two (c : Nat) : List UInt8 := [UInt8.ofNat (192 + c / 64), UInt8.ofNat (128 + c % 64)]
section
variable {α : Type} {G : Flat α} {P : Program} {n : Nat} {ops rest : List Oper} {N : Val → World → Prop} {Z : List PanicEntry → World → Prop} {f : Val} {w : World}
 {d : Nat} {x : Operand} {t tr : TypeId} {pos : String} {after : Array Edge}
end
end Go.Pn
end
section
namespace Go.Pn
theorem SlE.raws {te td ti tm : TypeId} {w : World} {lo hi : Nat} {v : Value} {l : List EntT} (h : SlE te td ti tm w lo hi v l) : ∃ raw, Sl entF.enc w (fun j => lo ≤ j ∧ j < hi) v raw ∧ EntL w (fun j => lo ≤ j ∧ j < hi) raw l := by
 obtain ⟨raw, h1, h2⟩ := h
 exact ⟨raw, h1.sl, h2.ents.weak fun _ hk => hk.2⟩
theorem EntL.sub {w : World} {F : Nat → Prop} {raw : List EntR} {l : List EntT} (h : EntL w F raw l) (i j : Nat) : EntL w F ((raw.take j).drop i) ((l.take j).drop i) := by
 refine ⟨by rw [List.length_drop, List.length_drop, List.length_take, List.length_take, h.1], fun k h1 h2 => ?_⟩
 rw [List.getElem_drop, List.getElem_drop, List.getElem_take, List.getElem_take]
 exact h.2 _ _ _
theorem EntL.tail {w : World} {F : Nat → Prop} {a : EntR} {x : EntT} {raw : List EntR} {l : List EntT} (h : EntL w F (a :: raw) (x :: l)) : EntL w F raw l :=
 ⟨by simpa using h.1, fun i h1 h2 => h.2 (i + 1) (by simpa using h1) (by simpa using h2)⟩
theorem EntL.head {w : World} {F : Nat → Prop} {a : EntR} {x : EntT} {raw : List EntR} {l : List EntT} (h : EntL w F (a :: raw) (x :: l)) : a.1 = x.1 ∧ CartAt w F a.2 x.2 := h.2 0 (by simp) (by simp)
theorem EntL.drop {w : World} {F : Nat → Prop} {raw : List EntR} {l : List EntT} (h : EntL w F raw l) (i : Nat) : EntL w F (raw.drop i) (l.drop i) := by
 refine ⟨by rw [List.length_drop, List.length_drop, h.1], fun k h1 h2 => ?_⟩
 rw [List.getElem_drop, List.getElem_drop]
 exact h.2 _ _ _
def slF : Flat Raw := ⟨1, fun r => [slv r], fun _ => rfl, by simp [Value.oneCell', slv], by decide⟩
def SlsL {α : Type} (E : Enc α) (w : World) (F : Nat → Prop) (ro : List Raw) (xs : List (List α)) : Prop := ro.length = xs.length ∧ ∀ i, ∀ h : i < ro.length, ∀ h' : i < xs.length, Sl E w F (slv ro[i]) xs[i]
section
variable {α : Type} {E : Enc α} {w w' : World} {F F' M : Nat → Prop} {ro : List Raw} {xs : List (List α)} {v : Value}
theorem SlsL.nil : SlsL E w F [] [] := ⟨rfl, fun i h => by simp at h⟩
theorem SlsL.keepM (h : SlsL E w F ro xs) (e : Ext M w w') (hM : ∀ k, F k → ¬ M k) : SlsL E w' F ro xs := ⟨h.1, fun i h1 h2 => (h.2 i h1 h2).keepM e hM⟩
theorem SlsL.keepA (h : SlsL E w F ro xs) (e : Ext M w w') (hM : ∀ k, F k → ¬ M k := by intro k hk h; first | (have q := hF k hk; (try dsimp only at h); omega) | (have q := hF2 k hk; (try dsimp only at h); omega) | (have q := hFb k hk; (try dsimp only at h); omega) | ((try dsimp only at hk); (try dsimp only at h); omega)) : SlsL E w' F ro xs := SlsL.keepM h e hM
theorem SlsL.keep (h : SlsL E w F ro xs) (e : Le w w') : SlsL E w' F ro xs := h.keepM e fun _ _ => not_false
theorem SlsL.weak (h : SlsL E w F ro xs) (hF : ∀ k, F k → F' k) : SlsL E w F' ro xs := ⟨h.1, fun i h1 h2 => (h.2 i h1 h2).weak hF⟩
theorem SlsL.weakA (h : SlsL E w F ro xs) (hF : ∀ k, F k → F' k := by intro q hq; (try dsimp only at hq); (try dsimp only); omega) : SlsL E w F' ro xs := SlsL.weak h hF
theorem SlsL.snoc {a : Raw} {x : List α} (h : SlsL E w F ro xs) (hm : Sl E w F (slv a) x) : SlsL E w F (ro ++ [a]) (xs ++ [x]) := by
 refine ⟨by simp [h.1], fun i h1 h2 => ?_⟩
 have hl := h.1
 simp only [List.length_append, List.length_cons, List.length_nil] at h1
 by_cases hi : i < ro.length
 ·rw [List.getElem_append_left hi, List.getElem_append_left (by omega)]
  exact h.2 i hi (by omega)
 ·have e1 : i = ro.length := by omega
  subst e1
  rw [List.getElem_append_right (by omega), List.getElem_append_right (by omega)]
  simp only [Nat.sub_self, hl, List.getElem_cons_zero]
  exact hm
theorem SlsL.set {a : Raw} {x : List α} {k : Nat} (h : SlsL E w F ro xs) (hm : Sl E w F (slv a) x) : SlsL E w F (ro.set k a) (xs.set k x) := by
 refine ⟨by rw [List.length_set, List.length_set]; exact h.1, fun i h1 h2 => ?_⟩
 rw [List.length_set] at h1 h2
 rw [List.getElem_set, List.getElem_set]
 split
 ·exact hm
 ·exact h.2 i h1 h2
theorem SlsL.sl (h : SlsL E w F ro xs) (hv : Sl slF.enc w F v ro) : Sl (sliE E) w F v xs := Sl.ofRaws rfl h.1 (fun i h1 h2 => ⟨slv ro[i], rfl, h.2 i h1 h2⟩) hv
end
end Go.Pn
end
section
namespace Go.Pn
open Go.RowKit
section
variable {P : Program} {n : Nat} {ops rest : List Oper} {N : Val → World → Prop} {Z : List PanicEntry → World → Prop} {f : Val} {w : World}
 {d : Nat} {x y : Operand} {t t' tr : TypeId} {pos : String} {after : Array Edge}
end
theorem Sl.slen {α : Type} {E : Enc α} {w : World} {F : Nat → Prop} {r : Raw} {xs : List α} (h : Sl E w F (Go.Pn.slv r) xs) : r.2.1 = xs.length := by
 obtain ⟨l, cap, e, _⟩ := h.val
 simp only [Go.Pn.slv, Value.slice.injEq] at e
 exact e.2.1
theorem SlsL.len {α : Type} {E : Enc α} {w : World} {F : Nat → Prop} {ro : List Raw} {xs : List (List α)} (h : SlsL E w F ro xs) {k : Nat} (hk : k < ro.length) : ro[k].2.1 = (xs[k]'(by have := h.1; omega)).length := (h.2 k hk (by have := h.1; omega)).slen
theorem SlsL.lens {α : Type} {E : Enc α} {w : World} {F : Nat → Prop} {ro : List Raw} {xs : List (List α)} (h : SlsL E w F ro xs) : ro.map (·.2.1) = xs.map List.length := by
 apply List.ext_getElem (by simp [h.1])
 intro i h1 h2
 simp only [List.getElem_map]
 exact h.len (by simpa using h1)
theorem SlsL.any {α : Type} {E : Enc α} {w : World} {F : Nat → Prop} {ro : List Raw} {xs : List (List α)} (h : SlsL E w F ro xs) (p : Nat → Bool) : ro.any (fun r => p r.2.1) = xs.any (fun x => p x.length) := by
 have h1 := congrArg (fun l => l.any p) h.lens
 simpa [List.any_map, Function.comp_def] using h1
end Go.Pn
end
section
namespace Go.Pn
open Go.RowKit
section
variable {v : Value} {bs : List (BitVec 64)} {r : BitVec 64}
end
section
variable {P : Program} {n : Nat} {ops rest : List Oper} {N : Val → World → Prop} {Z : List PanicEntry → World → Prop} {f : Val} {w : World}
 {d : Nat} {x y : Operand} {t t' tr e : TypeId} {pos : String} {after : Array Edge}
end
section
variable {P : Program} {n : Nat} {ops rest : List Oper} {N : Val → World → Prop} {Z : List PanicEntry → World → Prop} {f : Val} {w : World}
 {d : Nat} {x y : Operand} {t t' tr : TypeId} {pos : String} {after : Array Edge}
end
structure Parts (ty ta : TypeId) (B b : Nat) (w : World) (ps : List Value) (ls : List (List (BitVec 64))) : Prop where
 own : Own w b ta ps
 len : ps.length = ls.length
 each : ∀ i, ∀ h : i < ps.length, ∀ h' : i < ls.length, OwnF u64F ty B w ps[i] ls[i]
 apart : ∀ i j, ∀ hi : i < ps.length, ∀ hj : j < ps.length, i ≠ j → ∀ k, bk ps[i] k → ¬ bk ps[j] k
 off : ∀ i, ∀ hi : i < ps.length, ∀ k, bk ps[i] k → k ≠ b
section
variable {ty ta : TypeId} {B b : Nat} {w w' w'' : World} {ps : List Value} {ls : List (List (BitVec 64))}
theorem Parts.keep (h : Parts ty ta B b w ps ls) (e : Le w w') : Parts ty ta B b w' ps ls := ⟨h.own.keep e, h.len, fun i a c => (h.each i a c).keep e, h.apart, h.off⟩
theorem Parts.keepM {M : Nat → Prop} (h : Parts ty ta B b w ps ls) (e : Ext M w w') (hb : ¬ M b) (hM : ∀ i, ∀ hi : i < ps.length, ∀ k, bk ps[i] k → ¬ M k) : Parts ty ta B b w' ps ls := ⟨h.own.keepM e hb, h.len, fun i a c => (h.each i a c).keepM e (hM i a), h.apart, h.off⟩
theorem Parts.keepO {M : Nat → Prop} (h : Parts ty ta B b w ps ls) (e : Ext M w w') (hM : ∀ i, ∀ hi : i < ps.length, ∀ k, bk (ps[i]'hi) k → ¬ M k) (hb : ¬ M b := by intro h; (try dsimp only at h); omega) : Parts ty ta B b w' ps ls := h.keepM e hb hM
theorem Parts.zero {n : Nat} (h : Own w b ta (List.replicate n (.slice none 0 0))) : Parts ty ta B b w (List.replicate n (.slice none 0 0)) (List.replicate n []) := by
 refine ⟨h, by simp, fun i h1 h2 => ?_, fun i j h1 h2 _ k hk => ?_, fun i h1 k hk => ?_⟩
 ·simp only [List.getElem_replicate]
  exact OwnF.nil _ _ _ _
 ·simp only [List.getElem_replicate] at hk
  exact hk.elim
 ·simp only [List.getElem_replicate] at hk
  exact hk.elim
theorem Parts.put (h : Parts ty ta B b w ps ls) {i : Nat} (hi : i < ps.length) {v : Value} {xs : List (BitVec 64)} (hv : OwnF u64F ty B w' v xs) (e : Ext (bk (ps[i]'hi)) w w') (hw : ∀ k, bk v k → bk (ps[i]'hi) k ∨ w.heap.size ≤ k)
 (ho : Own w'' b ta (ps.set i v)) (e2 : Ext (fun k => k = b) w' w'') : Parts ty ta B b w'' (ps.set i v) (ls.set i xs) := by
 have hbl := h.own.lt
 have hold : ∀ j, ∀ hj : j < ps.length, ∀ k, bk ps[j] k → k < w.heap.size := fun j hj k hk => ((h.each j hj (by rw [← h.len]; exact hj)).bk_ge k hk).2
 have hvb : ∀ k, bk v k → k ≠ b := fun k hk => by
  rcases hw k hk with q | q
  ·exact h.off i hi k q
  ·omega
 refine ⟨ho, by rw [List.length_set, List.length_set]; exact h.len, fun j h1 h2 => ?_, fun j j2 h1 h2 hne k hk hk2 => ?_, fun j h1 k hk => ?_⟩
 ·rw [List.length_set] at h1 h2
  rw [List.getElem_set, List.getElem_set]
  split
  ·exact hv.keepM e2 hvb
  ·rename_i q
   exact ((h.each j h1 h2).keepM e fun k hk hk2 => h.apart j i h1 hi (fun q2 => q q2.symm) k hk hk2).keepM e2 (h.off j h1)
 ·rw [List.length_set] at h1 h2
  rw [List.getElem_set] at hk hk2
  split at hk <;> split at hk2
  ·omega
  ·rcases hw k hk with q | q
   ·exact h.apart i j2 hi h2 (by omega) k q hk2
   ·have := hold j2 h2 k hk2; omega
  ·rcases hw k hk2 with q | q
   ·exact h.apart j i h1 hi (by omega) k hk q
   ·have := hold j h1 k hk; omega
  ·exact h.apart j j2 h1 h2 hne k hk hk2
 ·rw [List.length_set] at h1
  rw [List.getElem_set] at hk
  split at hk
  ·exact hvb k hk
  ·exact h.off j h1 k hk
end
end Go.Pn
end
section
namespace Go.Pn
open Go.RowKit
section
variable {P : Program} {n' : Nat} {ops rest : List Oper} {N : Val → World → Prop} {Z : List PanicEntry → World → Prop} {f : Val} {w : World}
 {d : Nat} {x y : Operand} {dT sT tr e : TypeId} {pos : String} {after : Array Edge} {α : Type} {G : Flat α}
end
end Go.Pn
end
section
namespace Go.Pn
section
variable {td ti tm te : TypeId} {w w' : World} {F F' M G G' : Nat → Prop} {r : (Raw × Raw) × Raw} {c : CartT}
theorem CartF.len (h : CartF td ti tm w F r c) : r.2.2.1 = c.2.length := by
 obtain ⟨raw, h1, h2⟩ := h.2.2
 rw [h1.len, h2.1]
def RestE (td ti tm : TypeId) (w : World) (G : Nat → Prop) (b : Nat → Nat) (i : Nat) (raw : List EntR) (l : List EntT) : Prop :=
 ∀ j, ∀ h : j < raw.length, ∀ h' : j < l.length, i ≤ j → CartF td ti tm w (fun q => G q ∧ b j ≤ q ∧ q < b (j + 1)) raw[j].2 l[j].2
variable {raw : List EntR} {l : List EntT} {b : Nat → Nat} {i : Nat}
theorem RestE.keepM (h : RestE td ti tm w G b i raw l) (e : Ext M w w') (hM : ∀ k, (G k ∧ ∃ j, j < l.length ∧ i ≤ j ∧ b j ≤ k ∧ k < b (j + 1)) → ¬ M k) : RestE td ti tm w' G b i raw l := fun j h1 h2 h3 => (h j h1 h2 h3).keepM e fun k hk => hM k ⟨hk.1, j, h2, h3, hk.2⟩
theorem RestE.keep (h : RestE td ti tm w G b i raw l) (e : Le w w') : RestE td ti tm w' G b i raw l := h.keepM e fun _ _ => not_false
end
end Go.Pn
end
section
namespace Go.Pn
section
variable {P : Program} {n : Nat} {ops rest : List Oper} {N : Val → World → Prop} {Z : List PanicEntry → World → Prop} {f : Val} {w : World}
 {d : Nat} {x : Operand} {t tr e : TypeId} {pos : String} {after : Array Edge}
end
def Clip (v' v : Value) : Prop := v = v' ∨ ∃ g n cap, v' = .slice (some ⟨g, 0, none⟩) n cap ∧ v = .slice (some ⟨g, 0, none⟩) n n
theorem Clip.ptr {u v : Value} {g n cap : Nat} (h : Clip u v) (hu : u = .slice (some ⟨g, 0, none⟩) n cap) : ∃ cap2, v = .slice (some ⟨g, 0, none⟩) n cap2 := by
 rcases h with rfl | ⟨g', n', cap', h1, h2⟩
 ·exact ⟨cap, hu⟩
 ·rw [h1] at hu
  cases hu
  exact ⟨n, h2⟩
end Go.Pn
end
section
namespace Go.Pn
def ent0 (k : List UInt8) : EntR := (k, ((none, 0, 0), (none, 0, 0)), (none, 0, 0))
def cart0 : CartT := (([], []), [])
theorem CartAt.zero {w : World} {F : Nat → Prop} : CartAt w F (((none, 0, 0), (none, 0, 0)), (none, 0, 0)) cart0 := ⟨Sl.nil _ _ _, Sl.nil _ _ _, Sl.nil _ _ _⟩
section
variable {te td ti tm : TypeId} {w : World} {lo hi : Nat} {u v : Value} {l : List EntT}
end
end Go.Pn
end
section
namespace Go.Pn
section
variable {P : Program} {n : Nat} {ops rest : List Oper} {N : Val → World → Prop} {Z : List PanicEntry → World → Prop} {f : Val} {w : World}
 {d : Nat} {x y : Operand} {t t' tr : TypeId} {pos : String} {after : Array Edge}
end
end Go.Pn
end
section
namespace Go.Pn
open Go.RowKit
section
variable {P : Program} {n : Nat} {ops rest : List Oper} {N : Val → World → Prop} {Z : List PanicEntry → World → Prop} {f : Val} {w : World}
 {x y : Operand} {t tr ty : TypeId} {pos : String} {after : Array Edge} {α : Type}
end
theorem EntL.set {w : World} {F : Nat → Prop} {raw : List EntR} {l : List EntT} {a : EntR} {x : EntT} {k : Nat} (h : EntL w F raw l) (hn : a.1 = x.1) (hm : CartAt w F a.2 x.2) : EntL w F (raw.set k a) (l.set k x) := by
 refine ⟨by rw [List.length_set, List.length_set]; exact h.1, fun i h1 h2 => ?_⟩
 rw [List.length_set] at h1 h2
 rw [List.getElem_set, List.getElem_set]
 split
 ·exact ⟨hn, hm⟩
 ·exact h.2 i h1 h2
theorem EntL.zero {w : World} {F : Nat → Prop} {ks : List (List UInt8)} : EntL w F (ks.map ent0) (ks.map fun k => (k, cart0)) := by
 refine ⟨by rw [List.length_map, List.length_map], fun i h1 h2 => ?_⟩
 rw [List.getElem_map, List.getElem_map]
 exact ⟨rfl, CartAt.zero⟩
end Go.Pn
end
section
namespace Go.Pn
open Go.RowKit
section
variable {P : Program} {n' : Nat} {ops rest : List Oper} {N : Val → World → Prop} {Z : List PanicEntry → World → Prop} {f : Val} {w : World}
 {d : Nat} {x y : Operand} {dT sT tr e tn : TypeId} {pos : String} {after : Array Edge} {α : Type} {G : Flat α}
end
theorem Own0.keepO {M : Nat → Prop} {w w' : World} {b : Nat} {ty : TypeId} {cs : List Value} (h : Own0 w b ty cs) (e : Ext M w w') (hM : ¬ M b := by intro h; (try dsimp only at h); omega) : Own0 w' b ty cs := h.keepM e hM
theorem OwnF.row {α : Type} {G : Flat α} {ty : TypeId} {B : Nat} {w : World} {v : Value} {xs : List α} (h : OwnF G ty B w v xs) : (v = .slice none 0 0 ∧ xs = []) ∨ ∃ g cap cs, v = .slice (some ⟨g, 0, none⟩) xs.length cap ∧ B ≤ g ∧ Own0 w g ty cs ∧ cs.length = cap * G.sz ∧ xs.length ≤ cap ∧ cap ≤ maxLen ∧ cs.take (xs.length * G.sz) = xs.flatMap G.e := by
 rcases h.1.2 with ⟨h1, h2⟩ | ⟨g, cap, cur, h1, hB, hg, hn, hc, hs, ht⟩
 ·exact .inl ⟨h1, List.eq_nil_of_length_eq_zero h2⟩
 ·exact .inr ⟨g, cap, cur.toList, h1, hB, by unfold Own0; rw [Array.toArray_toList]; exact hg, by rw [Array.length_toList, hs], hn, hc, ht⟩
theorem EntL.ins {w : World} {F : Nat → Prop} {raw : List EntR} {l : List EntT} {a : EntR} {x : EntT} (h : EntL w F raw l) (i : Nat) (hn : a.1 = x.1) (hm : CartAt w F a.2 x.2) : EntL w F (raw.take i ++ a :: raw.drop i) (l.take i ++ x :: l.drop i) := by
 have h1 := ((h.sub 0 i).snoc hn hm).append (h.drop i)
 rw [List.drop_zero, List.drop_zero, List.append_assoc, List.append_assoc] at h1
 exact h1
end Go.Pn
end
section
namespace Go.Pn.Ss
def seg (xs M : List Int) (a b : Nat) : List Int := xs.take a ++ (M ++ xs.drop b)
theorem seg_take {xs M : List Int} {a b : Nat} (ha : a ≤ xs.length) : (seg xs M a b).take a = xs.take a := by
 unfold seg
 exact List.take_left' (by rw [List.length_take, Nat.min_eq_left ha])
theorem seg_mid {xs M : List Int} {a b : Nat} (ha : a ≤ xs.length) : (seg xs M a b).drop a = M ++ xs.drop b := by
 unfold seg
 exact List.drop_left' (by rw [List.length_take, Nat.min_eq_left ha])
theorem seg_drop {xs M : List Int} {a b : Nat} (ha : a ≤ xs.length) (hM : a + M.length = b) : (seg xs M a b).drop b = xs.drop b := by
 unfold seg
 rw [← List.append_assoc]
 exact List.drop_left' (by rw [List.length_append, List.length_take, Nat.min_eq_left ha, hM])
theorem seg_len {xs M : List Int} {a b : Nat} (ha : a ≤ xs.length) (hM : a + M.length = b) (hb : b ≤ xs.length) : (seg xs M a b).length = xs.length := by
 unfold seg
 rw [List.length_append, List.length_append, List.length_take, List.length_drop, Nat.min_eq_left ha]
 omega
theorem seg_same (xs : List Int) (a s : Nat) : seg xs ((xs.drop a).take s) a (a + s) = xs := by
 unfold seg
 have e : (xs.drop a).take s ++ xs.drop (a + s) = xs.drop a := by rw [← List.drop_drop, List.take_append_drop]
 rw [e, List.take_append_drop]
theorem seg_same2 (xs : List Int) (a s : Nat) : xs.take a ++ ((xs.drop a).take s ++ ((xs.drop (a + s)).take s ++ xs.drop (a + 2 * s))) = xs := by
 have e : (xs.drop (a + s)).take s ++ xs.drop (a + 2 * s) = xs.drop (a + s) := by
  rw [show a + 2 * s = a + s + s by omega, ← List.drop_drop (l := xs) (i := s) (j := a + s), List.take_append_drop]
 rw [e]
 exact seg_same xs a s
theorem seg_end (xs M : List Int) {a b : Nat} (hb : xs.length ≤ b) : seg xs M a b = xs.take a ++ (M ++ []) := by
 unfold seg
 rw [List.drop_of_length_le hb]
theorem fit {S q a : Nat} (ha : a = q * S) (r : Nat) : r * S + S ≤ a ∨ r * S = a ∨ a + S ≤ r * S := by
 subst ha
 rcases Nat.lt_trichotomy r q with h | h | h
 ·left
  have := Nat.mul_le_mul_right S (show r + 1 ≤ q from h)
  rw [Nat.add_mul, Nat.one_mul] at this
  exact this
 ·right; left; rw [h]
 ·right; right
  have := Nat.mul_le_mul_right S (show q + 1 ≤ r from h)
  rw [Nat.add_mul, Nat.one_mul] at this
  exact this
theorem bls_left {k : Int → Nat} {s r a : Nat} {D D' : List Int} (h : Bls k s D r) (e : D'.take a = D.take a) (hr : r * s + s ≤ a) : Bls k s D' r := by
 unfold Bls at *
 rw [blk_left e hr]
 exact h
theorem bls_right {k : Int → Nat} {s r b : Nat} {D D' : List Int} (h : Bls k s D r) (e : D'.drop b = D.drop b) (hr : b ≤ r * s) : Bls k s D' r := by
 unfold Bls at *
 rw [blk_right e hr]
 exact h
theorem bls_mid {k : Int → Nat} {s r a b : Nat} {xs M : List Int} (hr : r * s = a) (ha : a ≤ xs.length) (hM : Bl k a M) (hl : M.length = s ∨ (M.length ≤ s ∧ xs.length ≤ b)) : Bls k s (seg xs M a b) r := by
 unfold Bls blk
 rw [hr, seg_mid ha]
 rcases hl with hl | ⟨hl, hb⟩
 ·rw [List.take_left' hl]
  exact hM
 ·rw [List.drop_of_length_le hb, List.append_nil, List.take_of_length_le hl]
  exact hM
def AllB (k : Int → Nat) (s n : Nat) (xs : List Int) : Prop := xs.length = n ∧ ∀ r, Bls k s xs r
def Ph1 (k : Int → Nat) (n a : Nat) (xs : List Int) : Prop := (∃ q, a = q * 20) ∧ xs.length = n ∧ a ≤ n ∧ (∀ r, r * 20 + 20 ≤ a → Bls k 20 xs r) ∧ xs.drop a = iota a (n - a)
def Ph2 (k : Int → Nat) (s n a : Nat) (xs : List Int) : Prop := (∃ q, a = q * (2 * s)) ∧ xs.length = n ∧ a ≤ n ∧ (∀ r, r * (2 * s) + 2 * s ≤ a → Bls k (2 * s) xs r) ∧ ∀ r, a ≤ r * s → Bls k s xs r
theorem ph1_start (k : Int → Nat) (n : Nat) : Ph1 k n 0 (iota 0 n) := ⟨⟨0, by omega⟩, iota_length 0 n, Nat.zero_le _, fun r h => by omega, rfl⟩
theorem ph1_row {k : Int → Nat} {n a : Nat} {xs : List Int} (h : Ph1 k n a xs) (ha : a + 20 ≤ n) : (xs.drop a).take 20 = iota a 20 := by
 rw [h.2.2.2.2, iota_take (by omega)]
theorem ph1_step {k : Int → Nat} {n a : Nat} {xs M : List Int} (h : Ph1 k n a xs) (ha : a + 20 ≤ n) (hM : Asc k M) (hp : M.Perm ((xs.drop a).take 20)) : Ph1 k n (a + 20) (seg xs M a (a + 20)) := by
 have hrow := ph1_row h ha
 rw [hrow] at hp
 have hMl : M.length = 20 := by rw [hp.length_eq, iota_length]
 obtain ⟨⟨q, hq⟩, hl, han, hb, hd⟩ := h
 have hB : Bl k a M := ⟨hM, by rw [hMl]; exact hp⟩
 have hd9 : (seg xs M a (a + 20)).drop (a + 20) = xs.drop (a + 20) := seg_drop (by omega) (by omega)
 refine ⟨⟨q + 1, by omega⟩, by rw [seg_len (by omega) (by omega) (by omega)]; exact hl, ha, fun r hr => ?_, ?_⟩
 ·rcases fit hq r with h | h | h
  ·exact bls_left (hb r h) (seg_take (by omega)) h
  ·exact bls_mid h (by omega) hB (.inl hMl)
  ·omega
 ·rw [hd9, ← List.drop_drop, hd, iota_drop, show n - a - 20 = n - (a + 20) by omega]
theorem ph1_end {k : Int → Nat} {n a : Nat} {xs M : List Int} (h : Ph1 k n a xs) (ha : n < a + 20) (hM : Asc k M) (hp : M.Perm (xs.drop a)) : AllB k 20 n (xs.take a ++ (M ++ [])) := by
 obtain ⟨⟨q, hq⟩, hl, han, hb, hd⟩ := h
 rw [hd] at hp
 have hMl : M.length = n - a := by rw [hp.length_eq, iota_length]
 have hB : Bl k a M := ⟨hM, by rw [hMl]; exact hp⟩
 rw [← seg_end xs M (b := n) (by omega)]
 have hlen := seg_len (xs := xs) (M := M) (a := a) (b := n) (by omega) (by omega) (by omega)
 refine ⟨by rw [hlen]; exact hl, fun r => ?_⟩
 rcases fit hq r with h | h | h
 ·exact bls_left (hb r h) (seg_take (by omega)) h
 ·exact bls_mid h (by omega) hB (.inr ⟨by omega, by omega⟩)
 ·exact bls_beyond (by omega)
theorem ph2_start {k : Int → Nat} {s n : Nat} {xs : List Int} (h : AllB k s n xs) : Ph2 k s n 0 xs := by
 refine ⟨⟨0, by rw [Nat.zero_mul]⟩, h.1, Nat.zero_le _, fun r hr => ?_, fun r _ => h.2 r⟩
 have h0 : 2 * s = 0 := by omega
 unfold Bls blk
 rw [h0]
 exact Bl.nil _ _
theorem ph2_a {k : Int → Nat} {s n a : Nat} {xs : List Int} (h : Ph2 k s n a xs) : Bl k a ((xs.drop a).take s) := by
 obtain ⟨⟨q, hq⟩, _, _, _, hb⟩ := h
 have e : 2 * q * s = a := by rw [hq, Nat.mul_comm 2 q, Nat.mul_assoc]
 have := hb (2 * q) (by omega)
 unfold Bls blk at this
 rw [e] at this
 exact this
theorem ph2_c {k : Int → Nat} {s n a : Nat} {xs : List Int} (h : Ph2 k s n a xs) : Bl k (a + s) ((xs.drop (a + s)).take s) := by
 obtain ⟨⟨q, hq⟩, _, _, _, hb⟩ := h
 have e : (2 * q + 1) * s = a + s := by rw [hq, Nat.add_mul, Nat.one_mul, Nat.mul_comm 2 q, Nat.mul_assoc]
 have := hb (2 * q + 1) (by omega)
 unfold Bls blk at this
 rw [e] at this
 exact this
theorem ph2_step {k : Int → Nat} {s n a : Nat} {xs M : List Int} (h : Ph2 k s n a xs) (hs : 0 < s) (ha : a + 2 * s ≤ n) (hg : Mgd k ((xs.drop a).take s) ((xs.drop (a + s)).take s) M) : Ph2 k s n (a + 2 * s) (seg xs M a (a + 2 * s)) := by
 have hA := ph2_a h
 have hC := ph2_c h
 obtain ⟨⟨q, hq⟩, hl, han, hb, hb2⟩ := h
 have lA : ((xs.drop a).take s).length = s := by rw [List.length_take, List.length_drop]; omega
 have lC : ((xs.drop (a + s)).take s).length = s := by rw [List.length_take, List.length_drop]; omega
 have hMl : M.length = 2 * s := by rw [hg.length]; omega
 have hB : Bl k a M := Bl.of hA (by rw [lA]; exact hC) hg
 refine ⟨⟨q + 1, by rw [Nat.add_mul, Nat.one_mul, ← hq]⟩, by rw [seg_len (by omega) (by omega) (by omega)]; exact hl, ha, fun r hr => ?_, fun r hr => ?_⟩
 ·rcases fit hq r with h | h | h
  ·exact bls_left (hb r h) (seg_take (by omega)) h
  ·exact bls_mid h (by omega) hB (.inl hMl)
  ·omega
 ·exact bls_right (hb2 r (by omega)) (seg_drop (by omega) (by omega)) hr
theorem ph2_end1 {k : Int → Nat} {s n a : Nat} {xs M : List Int} (h : Ph2 k s n a xs) (ha : n < a + 2 * s) (ha2 : a + s < n) (hg : Mgd k ((xs.drop a).take s) (xs.drop (a + s)) M) : AllB k (2 * s) n (xs.take a ++ (M ++ [])) := by
 have hA := ph2_a h
 have hC := ph2_c h
 obtain ⟨⟨q, hq⟩, hl, han, hb, hb2⟩ := h
 have lA : ((xs.drop a).take s).length = s := by rw [List.length_take, List.length_drop]; omega
 have lC : (xs.drop (a + s)).length = n - (a + s) := by rw [List.length_drop, hl]
 rw [List.take_of_length_le (by omega)] at hC
 have hMl : M.length = n - a := by rw [hg.length]; omega
 have hB : Bl k a M := Bl.of hA (by rw [lA]; exact hC) hg
 rw [← seg_end xs M (b := n) (by omega)]
 have hlen := seg_len (xs := xs) (M := M) (a := a) (b := n) (by omega) (by omega) (by omega)
 refine ⟨by rw [hlen]; exact hl, fun r => ?_⟩
 rcases fit hq r with h | h | h
 ·exact bls_left (hb r h) (seg_take (by omega)) h
 ·exact bls_mid h (by omega) hB (.inr ⟨by omega, by omega⟩)
 ·exact bls_beyond (by omega)
theorem ph2_end2 {k : Int → Nat} {s n a : Nat} {xs : List Int} (h : Ph2 k s n a xs) (ha2 : n ≤ a + s) : AllB k (2 * s) n xs := by
 have hA := ph2_a h
 obtain ⟨⟨q, hq⟩, hl, han, hb, hb2⟩ := h
 have lD : (xs.drop a).length = n - a := by rw [List.length_drop, hl]
 rw [List.take_of_length_le (by omega)] at hA
 refine ⟨hl, fun r => ?_⟩
 rcases fit hq r with h | h | h
 ·exact hb r h
 ·unfold Bls blk
  rw [h, List.take_of_length_le (by omega)]
  exact hA
 ·exact bls_beyond (by omega)
theorem all_end {k : Int → Nat} {s n : Nat} {xs : List Int} (h : AllB k s n xs) (hs : n ≤ s) : Asc k xs ∧ xs.Perm (iota 0 n) := by
 have h0 := h.2 0
 unfold Bls blk at h0
 rw [Nat.zero_mul, List.drop_zero, List.take_of_length_le (by rw [h.1]; exact hs)] at h0
 exact ⟨h0.asc, by have := h0.perm; rw [h.1] at this; exact this⟩
end Go.Pn.Ss
end
section
namespace Go.Pn.Ss
instance (k : Int → Nat) (x y : Int) : Decidable (L k x y) := by unfold L; infer_instance
def cntT (k : Int → Nat) (i : Int) : Nat → Nat
 | 0 => 0
 | q + 1 => cntT k i q + if L k (q : Int) i then 1 else 0
theorem cntT_yes {k : Int → Nat} {i : Int} {q : Nat} (h : L k (q : Int) i) : cntT k i (q + 1) = cntT k i q + 1 := by rw [cntT, if_pos h]
theorem cntT_no {k : Int → Nat} {i : Int} {q : Nat} (h : ¬ L k (q : Int) i) : cntT k i (q + 1) = cntT k i q := by rw [cntT, if_neg h]; rfl
theorem cntT_le (k : Int → Nat) (i : Int) : ∀ q, cntT k i q ≤ q
 | 0 => Nat.le_refl _
 | q + 1 => by
   have := cntT_le k i q
   rw [cntT]
   split <;> omega
theorem cntT_eq (k : Int → Nat) (i : Int) : ∀ n, cntT k i n = (iota 0 n).countP fun x => decide (L k x i)
 | 0 => rfl
 | n + 1 => by
   have e : iota 0 (n + 1) = iota 0 n ++ [(n : Int)] := by
    rw [iota_append]
    simp [iota]
   rw [e, List.countP_append, ← cntT_eq k i n, cntT, List.countP_cons, List.countP_nil]
   by_cases h : L k (n : Int) i
   ·simp [h]
   ·simp [h]
def ordL (k : Int → Nat) (n : Nat) : Nat → List Int
 | 0 => List.replicate n 0
 | i + 1 => (ordL k n i).set (cntT k (i : Int) n) (i : Int)
theorem ordL_length (k : Int → Nat) (n : Nat) : ∀ i, (ordL k n i).length = n
 | 0 => List.length_replicate
 | i + 1 => by rw [ordL, List.length_set, ordL_length k n i]
theorem ordL_skip {k : Int → Nat} {n i : Nat} (h : n ≤ cntT k (i : Int) n) : ordL k n (i + 1) = ordL k n i := by
 rw [ordL, List.set_eq_of_length_le (by rw [ordL_length]; exact h)]
theorem cnt_place {k : Int → Nat} {n p : Nat} {M : List Int} (ha : Asc k M) (hp : M.Perm (iota 0 n)) (h : p < M.length) : cntT k (M.getD p 0) n = p := by
 rw [cntT_eq, ← hp.countP_eq]
 have e : M = M.take p ++ M.getD p 0 :: M.drop (p + 1) := by rw [← drop_cons h, List.take_append_drop]
 have c1 : (M.take p).countP (fun x => decide (L k x (M.getD p 0))) = (M.take p).length := List.countP_eq_length.2 fun x hx => by
  obtain ⟨i, h1, _, rfl⟩ := mem_take hx
  exact decide_eq_true (asc_get ha h1 h)
 have c2 : (M.drop (p + 1)).countP (fun x => decide (L k x (M.getD p 0))) = 0 := List.countP_eq_zero.2 fun x hx => by
  obtain ⟨i, h1, h2, rfl⟩ := mem_drop hx
  rw [decide_eq_true_eq]
  intro h3
  exact L.irrefl (h3.trans (asc_get ha h1 h2))
 have c3 : ¬ L k (M.getD p 0) (M.getD p 0) := fun q => L.irrefl q
 generalize hx : M.getD p 0 = x at *
 rw [e, List.countP_append, List.countP_cons, c1, c2, decide_eq_false c3, List.length_take, Nat.min_eq_left (by omega)]
 simp
theorem ordL_at {k : Int → Nat} {n : Nat} {M : List Int} (ha : Asc k M) (hp : M.Perm (iota 0 n)) : ∀ i, i ≤ n → ∀ p, p < n → (ordL k n i).getD p 0 = if M.getD p 0 < (i : Int) then M.getD p 0 else 0
 | 0, _, p, h => by
   have hl : M.length = n := by rw [hp.length_eq, iota_length]
   have := mem_iota (hp.mem_iff.1 (getD_mem (D := M) (i := p) (by omega)))
   rw [if_neg (by omega), ordL, List.getD_eq_getElem?_getD, List.getElem?_replicate, if_pos h]
   rfl
 | i + 1, hi, p, h => by
   have hl : M.length = n := by rw [hp.length_eq, iota_length]
   have ih := ordL_at ha hp i (by omega) p h
   have hm : (i : Int) ∈ M := hp.mem_iff.2 (by unfold iota; exact List.mem_map.2 ⟨i, List.mem_range.2 (by omega), by rw [Nat.zero_add]⟩)
   obtain ⟨p0, hp0, he⟩ := List.getElem_of_mem hm
   have he2 : M.getD p0 0 = (i : Int) := by rw [getD_get hp0]; exact he
   have hc := cnt_place ha hp hp0
   rw [he2] at hc
   rw [ordL, hc]
   rcases Nat.lt_trichotomy p p0 with h1 | h1 | h1
   ·have h3 := asc_get ha h1 hp0
    have h4 : M.getD p 0 ≠ (i : Int) := fun q => by rw [q, he2] at h3; exact L.irrefl h3
    have e : ((ordL k n i).set p0 (i : Int)).getD p 0 = (ordL k n i).getD p 0 := by
     rw [List.getD_eq_getElem?_getD, List.getElem?_set_ne (by omega), ← List.getD_eq_getElem?_getD]
    rw [e, ih]
    by_cases h5 : M.getD p 0 < (i : Int)
    ·rw [if_pos h5, if_pos (by omega)]
    ·rw [if_neg h5, if_neg (by omega)]
   ·subst h1
    rw [he2, if_pos (by omega), List.getD_eq_getElem?_getD, List.getElem?_set_self (by rw [ordL_length]; exact h)]
    rfl
   ·have h3 := asc_get ha h1 (by omega)
    have h4 : M.getD p 0 ≠ (i : Int) := fun q => by rw [q, he2] at h3; exact L.irrefl h3
    have e : ((ordL k n i).set p0 (i : Int)).getD p 0 = (ordL k n i).getD p 0 := by
     rw [List.getD_eq_getElem?_getD, List.getElem?_set_ne (by omega), ← List.getD_eq_getElem?_getD]
    rw [e, ih]
    by_cases h5 : M.getD p 0 < (i : Int)
    ·rw [if_pos h5, if_pos (by omega)]
    ·rw [if_neg h5, if_neg (by omega)]
theorem ordL_eq {k : Int → Nat} {n : Nat} {M : List Int} (ha : Asc k M) (hp : M.Perm (iota 0 n)) : M = ordL k n n := by
 have hl : M.length = n := by rw [hp.length_eq, iota_length]
 apply List.ext_getElem
 ·rw [ordL_length, hl]
 ·intro p h1 h2
  have := ordL_at ha hp n (Nat.le_refl _) p (by omega)
  have h3 := mem_iota (hp.mem_iff.1 (getD_mem (D := M) (i := p) h1))
  rw [if_pos (by omega), getD_get h1, getD_get h2] at this
  exact this.symm
end Go.Pn.Ss
end
