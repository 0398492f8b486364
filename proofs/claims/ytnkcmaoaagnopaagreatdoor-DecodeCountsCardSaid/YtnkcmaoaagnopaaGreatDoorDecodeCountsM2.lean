/-
  Rows of structs that are sorted in place. No condition.
-/
import Derived.Test.YtnkcmaoaagnopaaGreatDoorDecodeCountsM1
import Derived.Shelf.SlSortCmp.WholeK
import Derived.Defers
import Derived.Recover
section
namespace Go.Pn
open Go.RowKit Go.Sort Go.Proofs
section
variable {α : Type} [Inhabited α] {G : Flat α} {ty : TypeId} {B : Nat} {w : World} {l : List α} {g cap : Nat}
theorem flatK_list (G : Flat α) (l : List α) : (flatK G.e G.sz l.toArray).toList = l.flatMap G.e := by
  apply List.ext_getElem?
  intro t
  by_cases ht : t < l.length * G.sz
  · have h1 : t < (l.flatMap G.e).length := by rw [G.length]; exact ht
    obtain ⟨hi, hu⟩ := G.get l (List.getElem?_eq_getElem h1)
    have h2 : t < (flatK G.e G.sz l.toArray).size := by rw [size_flatK]; simpa using ht
    rw [Array.getElem?_toList, Array.getElem?_eq_getElem h2, List.getElem?_eq_getElem h1]
    congr 1
    have h3 := get_flatK G.e G.sz l.toArray t (by simpa using ht)
    rw [getElem!_pos _ t h2] at h3
    rw [h3]
    have h4 : l.toArray[t / G.sz]! = l[t / G.sz] := by
      rw [getElem!_pos l.toArray _ (by simpa using hi)]
      simp
    rw [h4, List.getElem!_eq_getElem?_getD, hu]
    rfl
  · rw [List.getElem?_eq_none (by rw [Array.length_toList, size_flatK]; simpa using ht), List.getElem?_eq_none (by rw [G.length]; omega)]
theorem OwnF.holdsK (h : OwnF G ty B w (.slice (some ⟨g, 0, none⟩) l.length cap) l) : HoldsK G.e G.sz w g 0 l.toArray ∧ g < w.heap.size := by
  obtain ⟨h0, hm⟩ := h
  rcases h0.2 with ⟨h1, _⟩ | ⟨g', cap', cur, h1, hb, hg, hn, hc, hsz, ht⟩
  · cases h1
  · have e1 : g = g' := by cases h1; rfl
    subst e1
    refine ⟨?_, lt_of_some hg⟩
    intro j hj
    rw [size_flatK] at hj
    have hj2 : j < l.length * G.sz := by simpa using hj
    have hjc : j < cur.size := by
      have := Nat.mul_le_mul_right G.sz hn
      have e2 : cap = cap' := by cases h1; rfl
      omega
    have hcell : cur[j]? = some (id (flatK G.e G.sz l.toArray)[j]!) := by
      have h2 : j < (flatK G.e G.sz l.toArray).size := by rw [size_flatK]; exact hj
      have h3 : (flatK G.e G.sz l.toArray)[j]? = cur[j]? := by
        rw [← Array.getElem?_toList, flatK_list, ← ht, List.getElem?_take, if_pos hj2, Array.getElem?_toList]
      rw [← h3, getElem!_pos _ j h2, Array.getElem?_eq_getElem h2]
      rfl
    constructor
    · simp only [World.cell?, hg, Nat.zero_add]
      simpa using hcell
    · simp [World.frozen?, hg]
/-- Behind the sort. -/
theorem OwnF.sortedK (h : OwnF G ty B w (.slice (some ⟨g, 0, none⟩) l.length cap) l) {d : Array α} (hd : d.size = l.length) (m : Nat) (os : Array Obj) :
    OwnF G ty B (sortWorldK G.e G.sz w g 0 m d os) (.slice (some ⟨g, 0, none⟩) l.length cap) d.toList ∧ Ext (fun k => k = g) w (sortWorldK G.e G.sz w g 0 m d os) := by
  obtain ⟨h0, hm⟩ := h
  have hsize : (sortWorldK G.e G.sz w g 0 m d os).heap.size = w.heap.size + os.size := by
    show (w.heap.modify g _ ++ os).size = _
    rw [Array.size_append, Array.size_modify]
  rcases h0.2 with ⟨h1, _⟩ | ⟨g', cap', cur, h1, hb, hg, hn, hc, hsz, ht⟩
  · cases h1
  · have e1 : g = g' := by cases h1; rfl
    have e2 : cap = cap' := by cases h1; rfl
    subst e1; subst e2
    have hlt : g < w.heap.size := lt_of_some hg
    constructor
    · have hd2 : d.toList.length = l.length := by simpa using hd
      refine ⟨⟨by rw [G.length], .inr ⟨g, cap, putCells id 0 (flatK G.e G.sz d) cur, by rw [hd2], hb, ?_, by rw [hd2]; exact hn, hc, ?_, ?_⟩⟩, by rw [hd2]; exact hm⟩
      · show (w.heap.modify g _ ++ os)[g]? = _
        rw [Array.getElem?_append_left (by rw [Array.size_modify]; exact hlt), Array.getElem?_modify, if_pos rfl, hg]
        rfl
      · unfold putCells
        rw [Array.size_mapIdx]
        exact hsz
      · rw [hd2]
        have e3 : d.toList.flatMap G.e = (flatK G.e G.sz d).toList := by
          have := flatK_list G d.toList
          rw [Array.toArray_toList] at this
          exact this.symm
        rw [e3]
        have hfs : (flatK G.e G.sz d).size = l.length * G.sz := by rw [size_flatK, hd]
        apply List.ext_getElem?
        intro j
        unfold putCells
        by_cases hj : j < l.length * G.sz
        · have hjc : j < cur.size := by
            have := Nat.mul_le_mul_right G.sz hn
            omega
          have hjf : j < (flatK G.e G.sz d).size := by omega
          rw [List.getElem?_take, if_pos hj, Array.getElem?_toList, Array.getElem?_mapIdx, Array.getElem?_eq_getElem hjc]
          simp only [Option.map_some, Nat.zero_le, true_and, Nat.zero_add, if_pos hjf, Nat.sub_zero, Array.getElem?_toList, Array.getElem?_eq_getElem hjf]
          rw [getElem!_pos _ j hjf]
          rfl
        · rw [List.getElem?_take, if_neg hj, List.getElem?_eq_none (by rw [Array.length_toList]; omega)]
    · refine ⟨rfl, rfl, rfl, by rw [hsize]; omega, fun k hk hn => ?_⟩
      show (w.heap.modify g _ ++ os)[k]? = _
      rw [Array.getElem?_append_left (by rw [Array.size_modify]; exact hk), Array.getElem?_modify, if_neg (fun h => hn h.symm)]
end
end Go.Pn
end
section
/-
  A slice of the call's own whose block has a name. No condition beyond what each rule asks.
-/
namespace Go.Pn
open Go.RowKit
/-- A slice of the call's own; its cells lie in g, if there are any. -/
def OG {α : Type} (G : Flat α) (ty : TypeId) (w : World) (v : Value) (g : Nat) (xs : List α) : Prop := OwnF G ty 0 w v xs ∧ (∀ k, bk v k → k = g) ∧ g < w.heap.size
section
variable {α : Type} {G : Flat α} {ty : TypeId} {w w' : World} {v : Value} {g B : Nat} {xs ys : List α}
theorem OG.keepM {M : Nat → Prop} (h : OG G ty w v g xs) (e : Ext M w w') (hM : ∀ k, k = g → ¬ M k) : OG G ty w' v g xs := ⟨h.1.keepM e fun k hk => hM k (h.2.1 k hk), h.2.1, e.lt h.2.2⟩
theorem OG.keep (h : OG G ty w v g xs) (e : Le w w') : OG G ty w' v g xs := h.keepM e fun _ _ => not_false
theorem OG.lst (h : OG G ty w v g xs) (e : xs = ys) : OG G ty w v g ys := e ▸ h
theorem OG.of (h : OwnF G ty B w v xs) (hne : 0 < xs.length) : ∃ g, OG G ty w v g xs ∧ B ≤ g := by
  obtain ⟨g, cap, cs, rfl, _, _, _, _, _, hB⟩ := h.block hne
  exact ⟨g, ⟨h.low (Nat.zero_le _), fun k hk => hk, (h.bk_ge g rfl).2⟩, hB⟩
theorem OG.sl (h : OG G ty w v g xs) : Sl G.enc w (fun k => k = g) v xs := h.1.sl.weak h.2.1
theorem OG.bk (h : OG G ty w v g xs) (hne : 0 < xs.length) : Go.Pn.bk v g := by
  obtain ⟨g', cap, cs, rfl, _⟩ := h.1.block hne
  obtain rfl := h.2.1 g' rfl
  exact rfl
/-- A slice of its own again. -/
theorem OG.own (h : OG G ty w v g xs) (hB : B ≤ g) : OwnF G ty B w v xs := by
  refine ⟨⟨h.1.1.1, ?_⟩, h.1.2⟩
  rcases h.1.1.2 with hn | ⟨g', cap, cur, rfl, _, rest⟩
  · exact .inl hn
  · have e : g' = g := h.2.1 g' rfl
    exact .inr ⟨g', cap, cur, rfl, by omega, rest⟩
end
section
variable {P : Program} {n : Nat} {ops rest : List Oper} {N : Val → World → Prop} {Z : List PanicEntry → World → Prop} {f : Val} {w : World}
  {d : Nat} {x y : Operand} {t t' ty tr e : TypeId} {pos : String} {after : Array Edge} {α : Type} {G : Flat α} {F : Nat → Prop}
theorem O.appG {i : TypeInfo} {z v v2 : Value} {xs ys : List α} {g : Nat} (ht : P.underlying t = some (.slice e)) (hi : P.info? e = some i) (hz : i.zero = some z) (hsz : i.size = G.sz) (hzs : z.cells.size = G.sz)
    (hx : ev n f x = v) (hy : ev n f y = v2) (hown : OG G e w v g xs) (hv2 : Sl G.enc w F v2 ys) (hb : (xs.length + ys.length) * i.bytes ≤ 140737488355328) (hl : xs.length + ys.length ≤ maxLen)
    (h : ∀ v' g' w', OG G e w' v' g' (xs ++ ys) → (g' = g ∨ w.heap.size ≤ g') → Ext (bk v) w w' → (∀ k, bk v' k → bk v k ∨ w.heap.size ≤ k) → O P n ops rest N Z (upd f d v') w') :
    O P n ops ({ dst := some d, op := .call { callee := .builtin .append, args := [x, y].toArray, argTypes := [t, t].toArray }, type := tr, pos := pos, after := after, guard := .none } :: rest) N Z f w := by
  refine O.appW ht hi hz hsz hzs hx hy hown.1 hv2 hb hl (Nat.zero_le _) fun v' w' ho he hw => ?_
  by_cases hq : ∃ k, bk v' k
  · obtain ⟨k, hk⟩ := hq
    have huniq : ∀ j, bk v' j → j = k := by
      intro j hj
      cases v' with
      | slice a n c =>
        cases a with
        | none => exact hj.elim
        | some a => simp only [bk] at hj hk; rw [hj, hk]
      | _ => exact hj.elim
    refine h v' k w' ⟨ho, huniq, (ho.bk_ge k hk).2⟩ ?_ he hw
    rcases hw k hk with q | q
    · exact .inl (hown.2.1 k q)
    · exact .inr q
  · exact h v' g w' ⟨ho, fun k hk => absurd ⟨k, hk⟩ hq, he.lt hown.2.2⟩ (.inl rfl) he hw
end
theorem OG.nil {α : Type} {G : Flat α} {ty : TypeId} {w : World} {g : Nat} (h : g < w.heap.size) : OG G ty w (.slice none 0 0) g [] := ⟨OwnF.nil _ _ _ _, fun _ h => h.elim, h⟩
/-- An item's cells. -/
theorem At.raw {w : World} {F : Nat → Prop} {a : Addr} {z : ItemT} (h : At itemE w F a z) : ∃ s, At itemF.enc w F a (z.1, s) ∧ Sl markF.enc w F (slv s) z.2 := by
  obtain ⟨b, off, cur, ty, fr, rfl, hF, hb, hs, v, hv, hm⟩ := h
  obtain ⟨s, rfl⟩ := hm.slv
  exact ⟨s, ⟨b, off, cur, ty, fr, rfl, hF, hb, hs, hv⟩, hm⟩
end Go.Pn
end
section
/-
  PLAIN LAWS OF CARTS AS BYTES: the chapter's example. Of no program.
-/
namespace Go.Pn.Cn
open Go Go.Pn
/-- The cart of the chapter's examples. -/
def exam : Cart := (([(2, 3)], [(5, 9)]), [([116, 101, 97], [((2, 3), 200, 1#64)])])
/-- No cart at all. -/
def nil0 : Cart := (([], []), [])
theorem num200 : num 200 = [200, 1] := by rw [num_ge (by decide), num_lt (by decide)]; rfl
theorem bytes_nil0 : bytes nil0 = [0, 0, 0] := by
  unfold bytes nil0 ctxB dotsB itemsB
  simp [num_lt]
theorem bytes_exam : bytes exam = [1, 2, 3, 1, 5, 9, 1, 3, 116, 101, 97, 1, 2, 3, 200, 1, 1] := by
  have e2 : u 2 = 2 := by decide
  have e3 : u 3 = 3 := by decide
  have e5 : u 5 = 5 := by decide
  have e9 : u 9 = 9 := by decide
  have e200 : u 200 = 200 := by decide
  unfold bytes exam ctxB dotsB itemsB itemB strB
  simp [num_lt, dotB, markB, e2, e3, e5, e9, e200, num200]
theorem ctx_exam : ctxB exam.1 = [1, 2, 3, 1, 5, 9] := by
  have e2 : u 2 = 2 := by decide
  have e3 : u 3 = 3 := by decide
  have e5 : u 5 = 5 := by decide
  have e9 : u 9 = 9 := by decide
  unfold exam ctxB dotsB
  simp [num_lt, dotB, e2, e3, e5, e9]
theorem valid_nil0 : valid nil0 = true := by decide +kernel
theorem valid_exam : valid exam = true := by decide +kernel
theorem compact_exam : isCompact exam.1 = true := by decide +kernel
end Go.Pn.Cn
end
section
/-
  PLAIN LAWS OF READING: what stands at a place of bytes, and what does not. Of no program.
-/
namespace Go.Pn.Cn
open Go Go.Pn
/-- From k to k' bytes read s. -/
def Seg (s l : List UInt8) (k k' : Nat) : Prop := l.drop k = s ++ l.drop k' ∧ k' = k + s.length ∧ k' ≤ l.length
/-- Nothing that Q allows stands at k. -/
def No {α : Type} (Q : α → Prop) (f : α → List UInt8) (l : List UInt8) (k : Nat) : Prop := ∀ x r, Q x → l.drop k ≠ f x ++ r
section
variable {α β : Type} {Q : α → Prop} {Q' : β → Prop} {f : α → List UInt8} {g : β → List UInt8} {s t l r : List UInt8} {k k1 k2 : Nat} {x y : α}
theorem Seg.nil (h : k ≤ l.length) : Seg [] l k k := ⟨rfl, rfl, h⟩
theorem Seg.le (h : Seg s l k k1) : k ≤ k1 ∧ k1 ≤ l.length := ⟨by rw [h.2.1]; omega, h.2.2⟩
theorem Seg.app (h : Seg s l k k1) (h' : Seg t l k1 k2) : Seg (s ++ t) l k k2 :=
  ⟨by rw [List.append_assoc, ← h'.1, h.1], by rw [List.length_append, h'.2.1, h.2.1]; omega, h'.2.2⟩
theorem Seg.cast (h : Seg s l k k1) (e : s = t) : Seg t l k k1 := e ▸ h
theorem Seg.of (h : l.drop k = s ++ r) (hk : k ≤ l.length) : Seg s l k (k + s.length) := by
  have e : l.drop (k + s.length) = r := by rw [← List.drop_drop, h, List.drop_left]
  refine ⟨by rw [e, h], rfl, ?_⟩
  have := congrArg List.length h
  simp only [List.length_drop, List.length_append] at this
  omega
theorem Seg.take (h : s = (l.drop k).take s.length) (hk : k + s.length ≤ l.length) : Seg s l k (k + s.length) :=
  Seg.of (r := (l.drop k).drop s.length) (by rw [show s ++ (l.drop k).drop s.length = (l.drop k).take s.length ++ (l.drop k).drop s.length by rw [← h], List.take_append_drop]) (by omega)
theorem Seg.uniq (h : Seg (f x) l k k1) (hp : Pre Q f) (hx : Q x) (hy : Q y) (e : l.drop k = f y ++ r) : x = y ∧ l.drop k1 = r :=
  hp _ _ _ _ hx hy (h.1.symm.trans e)
theorem No.mono {Q2 : α → Prop} (h : No Q f l k) (hq : ∀ x, Q2 x → Q x) : No Q2 f l k := fun x r hx => h x r (hq x hx)
theorem No.fst (h : No Q f l k) : No (fun x : α × β => Q x.1 ∧ Q' x.2) (fun x => f x.1 ++ g x.2) l k := fun x r hx e => h x.1 (g x.2 ++ r) hx.1 (by rw [e, List.append_assoc])
theorem No.snd (hs : Seg (f x) l k k1) (hp : Pre Q f) (hx : Q x) (h : No Q' g l k1) : No (fun x : α × β => Q x.1 ∧ Q' x.2) (fun x => f x.1 ++ g x.2) l k := by
  intro y r hy e
  obtain ⟨_, h2⟩ := hs.uniq hp hx hy.1 (r := g y.2 ++ r) (by rw [e, List.append_assoc])
  exact h y.2 r hy.2 h2
theorem pre_num : Pre (fun _ : BitVec 64 => True) fun q => num q.toNat := fun x y r s _ _ e => by
  obtain ⟨h1, h2⟩ := num_pre _ _ _ _ e
  exact ⟨BitVec.eq_of_toNat_eq h1, h2⟩
/-- The length of a list does not stand there. -/
theorem No.len (h : No (fun _ : BitVec 64 => True) (fun q => num q.toNat) l k) (hf : ∀ x, 1 ≤ (f x).length) (hl : l.length < 2 ^ 64) : No (fun xs : List α => ∀ x ∈ xs, Q x) (fun xs => num xs.length ++ xs.flatMap f) l k := by
  intro xs r _ e
  have hb : xs.length ≤ l.length := by
    have h1 : xs.length ≤ (xs.flatMap f).length := by
      clear e
      induction xs with
      | nil => simp
      | cons x xs ih => have := hf x; have := ih (fun y hy => by simp_all); simp only [List.flatMap_cons, List.length_append, List.length_cons]; omega
    have h2 := congrArg List.length e
    simp only [List.length_drop, List.length_append] at h2
    omega
  refine h (BitVec.ofNat 64 xs.length) (xs.flatMap f ++ r) trivial ?_
  show l.drop k = num (BitVec.ofNat 64 xs.length).toNat ++ (xs.flatMap f ++ r)
  rw [BitVec.toNat_ofNat, Nat.mod_eq_of_lt (by omega), e, List.append_assoc]
/-- One of those that are counted does not stand where the ones before it end. -/
theorem No.many {n : Nat} {k0 : Nat} {ds : List α} (hn : Seg (num n) l k k0) (hp : Pre Q f) (hq : ∀ x ∈ ds, Q x) (hs : Seg (ds.flatMap f) l k0 k1) (hj : ds.length < n) (h : No Q f l k1) : No (fun xs : List α => ∀ x ∈ xs, Q x) (fun xs => num xs.length ++ xs.flatMap f) l k := by
  intro xs r hx e
  have e1 : num n ++ l.drop k0 = num xs.length ++ (xs.flatMap f ++ r) := by rw [← hn.1, e, List.append_assoc]
  obtain ⟨rfl, e2⟩ := num_pre _ _ _ _ e1
  obtain ⟨y, ys, hd⟩ : ∃ y ys, xs.drop ds.length = y :: ys := by
    cases hc : xs.drop ds.length with
    | nil => have := congrArg List.length hc; simp only [List.length_drop, List.length_nil] at this; omega
    | cons y ys => exact ⟨y, ys, rfl⟩
  have e3 : ds.flatMap f ++ l.drop k1 = (xs.take ds.length).flatMap f ++ ((y :: ys).flatMap f ++ r) := by
    rw [← hs.1, e2, ← hd, ← List.append_assoc, ← List.flatMap_append, List.take_append_drop]
  obtain ⟨_, e4⟩ := pre_many hp _ _ _ _ hq (fun x hm => hx x (List.mem_of_mem_take hm)) (by rw [List.length_take]; omega) e3
  refine h y (ys.flatMap f ++ r) (hx y (by rw [← List.take_append_drop ds.length xs, hd]; simp)) ?_
  rw [e4, List.flatMap_cons, List.append_assoc]
theorem Seg.many {n k0 : Nat} {ds : List α} (hn : Seg (num n) l k k0) (hs : Seg (ds.flatMap f) l k0 k1) (hj : ds.length = n) : Seg (num ds.length ++ ds.flatMap f) l k k1 := (hn.cast (by rw [hj])).app hs
theorem Seg.snoc {ds : List α} {d : α} (hs : Seg (ds.flatMap f) l k k1) (hd : Seg (f d) l k1 k2) : Seg ((ds ++ [d]).flatMap f) l k k2 := (hs.app hd).cast (by rw [List.flatMap_append, List.flatMap_singleton])
/-- A bounded whole number. -/
theorem No.int {m : Nat} (h : No (fun q : BitVec 64 => q.toNat ≤ m) (fun q => num q.toNat) l k) (hm : m < 2 ^ 63) : No (fun x : Int => 0 ≤ x ∧ x ≤ m) (fun x => num (u x)) l k := by
  intro x r hx e
  refine h (BitVec.ofInt 64 x) r ?_ e
  show (BitVec.ofInt 64 x).toNat ≤ m
  rw [BitVec.toNat_ofInt]
  omega
theorem No.intR (h : No (fun _ : BitVec 64 => True) (fun q => num q.toNat) l k) : No InR (fun x => num (u x)) l k := fun x r _ e => h (BitVec.ofInt 64 x) r trivial e
theorem u_toInt (q : BitVec 64) : u q.toInt = q.toNat := by unfold u; rw [BitVec.ofInt_toInt]
theorem toInt_R (q : BitVec 64) : InR q.toInt := by
  have h := BitVec.toInt_lt (x := q)
  have h2 := BitVec.le_toInt (x := q)
  unfold InR
  omega
theorem toInt_le {q : BitVec 64} {m : Nat} (h : q.toNat ≤ m) (hm : m < 2 ^ 63) : 0 ≤ q.toInt ∧ q.toInt ≤ m := by
  rw [BitVec.toInt_eq_toNat_cond, if_pos (by omega)]
  omega
end
/-! what a number looks like -/
/-- The number of some groups, the lowest one first. -/
def valN : List UInt8 → Nat
  | [] => 0
  | c :: l => c.toNat % 128 + 128 * valN l
theorem valN_num (n : Nat) : valN (num n) = n := by
  induction n using Nat.strongRecOn with
  | _ n ih =>
    by_cases h : n < 128
    · rw [num_lt h]; simp only [valN, UInt8.toNat_ofNat']; omega
    · rw [num_ge h]; simp only [valN, UInt8.toNat_ofNat', ih (n / 128) (by omega)]; omega
theorem num_shape (q : Nat) : ∃ init last, num q = init ++ [last] ∧ (∀ c ∈ init, 128 ≤ c.toNat) ∧ last.toNat < 128 ∧ (q ≠ 0 → last.toNat ≠ 0) ∧ (init ≠ [] → q ≠ 0) ∧ last.toNat * 128 ^ init.length ≤ q := by
  induction q using Nat.strongRecOn with
  | _ q ih =>
    by_cases h : q < 128
    · refine ⟨[], UInt8.ofNat q, by rw [num_lt h]; rfl, by simp, ?_, ?_, by simp, ?_⟩
      · simp only [UInt8.toNat_ofNat']; omega
      · simp only [UInt8.toNat_ofNat']; omega
      · simp only [UInt8.toNat_ofNat', List.length_nil, Nat.pow_zero]; omega
    · obtain ⟨init, last, h1, h2, h3, h4, h5, h6⟩ := ih (q / 128) (by omega)
      refine ⟨UInt8.ofNat (128 + q % 128) :: init, last, by rw [num_ge h, h1]; rfl, ?_, h3, fun _ => h4 (by omega), fun _ => by omega, ?_⟩
      · intro c hc
        rcases List.mem_cons.1 hc with rfl | hc
        · simp only [UInt8.toNat_ofNat']; omega
        · exact h2 c hc
      · rw [List.length_cons, Nat.pow_succ, ← Nat.mul_assoc]
        have := Nat.mul_le_mul_right 128 h6
        omega
theorem num_back : ∀ (init : List UInt8) (last : UInt8), (∀ c ∈ init, 128 ≤ c.toNat) → last.toNat < 128 → (init ≠ [] → last.toNat ≠ 0) → num (valN (init ++ [last])) = init ++ [last] ∧ (last.toNat ≠ 0 → valN (init ++ [last]) ≠ 0)
  | [], last, _, h2, _ => by
    have e : valN ([] ++ [last]) = last.toNat := by simp only [List.nil_append, valN]; omega
    rw [e, num_lt h2]
    exact ⟨by simp, fun h => h⟩
  | c :: init, last, h1, h2, h3 => by
    obtain ⟨i1, i2⟩ := num_back init last (fun x hx => h1 x (by simp [hx])) h2 (fun _ => h3 (by simp))
    have hc := h1 c (by simp)
    have hc2 := c.toNat_lt
    have hv := i2 (h3 (by simp))
    have e : valN (c :: init ++ [last]) = c.toNat % 128 + 128 * valN (init ++ [last]) := rfl
    rw [e]
    refine ⟨?_, fun _ => by omega⟩
    rw [num_ge (by omega), show (c.toNat % 128 + 128 * valN (init ++ [last])) / 128 = valN (init ++ [last]) by omega, i1, show (c.toNat % 128 + 128 * valN (init ++ [last])) % 128 = c.toNat % 128 by omega]
    have : UInt8.ofNat (128 + c.toNat % 128) = c := UInt8.toNat_inj.1 (by simp only [UInt8.toNat_ofNat']; omega)
    rw [this]
    rfl
theorem valN_lt : ∀ (init : List UInt8) (last : UInt8), last.toNat < 128 → valN (init ++ [last]) < (last.toNat + 1) * 128 ^ init.length
  | [], last, h => by simp only [List.nil_append, valN, List.length_nil, Nat.pow_zero]; omega
  | c :: init, last, h => by
    have ih := valN_lt init last h
    have e : valN (c :: init ++ [last]) = c.toNat % 128 + 128 * valN (init ++ [last]) := rfl
    rw [e, List.length_cons, Nat.pow_succ, ← Nat.mul_assoc]
    omega
def small7 (c : UInt8) : Bool := decide (c.toNat < 128)
/-- Where the first group ends, among the first ten. -/
def endN (x : List UInt8) : Int := idx small7 (x.take 10)
theorem pow9 : 128 ^ 9 = 9223372036854775808 := by decide
theorem small_len {init : List UInt8} {last : UInt8} {q : Nat} (hq : q < 2 ^ 64) (h : last.toNat * 128 ^ init.length ≤ q) (h0 : init ≠ [] → last.toNat ≠ 0) : init.length ≤ 9 ∧ (init.length = 9 → last.toNat ≤ 1) := by
  have h1 : init.length ≤ 9 := by
    rcases Nat.lt_or_ge 9 init.length with h2 | h2
    · exfalso
      have h3 : init ≠ [] := by intro h; rw [h] at h2; simp at h2
      have h4 := h0 h3
      have h5 : 128 ^ 10 ≤ 128 ^ init.length := Nat.pow_le_pow_right (by decide) h2
      have h6 : 128 ^ 10 = 1180591620717411303424 := by decide
      have h7 : 1 * 128 ^ init.length ≤ last.toNat * 128 ^ init.length := Nat.mul_le_mul_right _ (by omega)
      omega
    · exact h2
  refine ⟨h1, fun h2 => ?_⟩
  rw [h2, pow9] at h
  omega
/-- What a number gives where it stands. -/
theorem num_stands {q : Nat} {x r : List UInt8} (hq : q < 2 ^ 64) (h : x = num q ++ r) : ∃ e : Nat, endN x = e ∧ ∃ he : e < x.length, e ≤ 9 ∧ num q = x.take (e + 1) ∧ (0 < e → x[e].toNat ≠ 0) ∧ (e = 9 → x[e].toNat ≤ 1) ∧ x[e].toNat < 128 ∧ ∀ i, ∀ hi : i < x.length, i < e → ¬ x[i].toNat < 128 := by
  obtain ⟨init, last, h1, h2, h3, h4, h5, h6⟩ := num_shape q
  have h0 : init ≠ [] → last.toNat ≠ 0 := fun h => h4 (h5 h)
  obtain ⟨h7, h8⟩ := small_len hq h6 h0
  have hx : x = init ++ last :: r := by rw [h, h1]; simp
  have hl : init.length < x.length := by rw [hx]; simp
  have hget : x[init.length] = last := by
    have : x[init.length]? = some last := by rw [hx]; simp
    rw [List.getElem?_eq_getElem hl] at this
    exact Option.some.inj this
  have hlow : ∀ i, ∀ hi : i < x.length, i < init.length → ¬ x[i].toNat < 128 := by
    intro i hi hii
    have : x[i]? = some init[i] := by rw [hx, List.getElem?_append_left hii, List.getElem?_eq_getElem hii]
    rw [List.getElem?_eq_getElem hi] at this
    rw [Option.some.inj this]
    have := h2 _ (List.getElem_mem hii)
    omega
  refine ⟨init.length, ?_, hl, h7, ?_, fun h => by rw [hget]; exact h0 (by intro h2; rw [h2] at h; simp at h), fun h => by rw [hget]; exact h8 h, by rw [hget]; exact h3, hlow⟩
  · unfold endN
    have hl2 : init.length < (x.take 10).length := by rw [List.length_take]; omega
    refine idx_yes hl2 ?_ fun i hi hii => ?_
    · rw [List.getElem_take, hget]; exact decide_eq_true h3
    · rw [List.getElem_take]; exact decide_eq_false (hlow i (by rw [List.length_take] at hi; omega) hii)
  · rw [h1, hx, show init ++ last :: r = (init ++ [last]) ++ r by simp, List.take_left' (by simp)]
/-- What stands there is the number of its groups. -/
theorem stands_num {x : List UInt8} {e : Nat} (he : e < x.length) (h9 : e ≤ 9) (h1 : ∀ i, ∀ hi : i < x.length, i < e → ¬ x[i].toNat < 128) (h2 : x[e].toNat < 128) (h3 : 0 < e → x[e].toNat ≠ 0) (h4 : e = 9 → x[e].toNat ≤ 1) :
    num (valN (x.take (e + 1))) = x.take (e + 1) ∧ valN (x.take (e + 1)) < 2 ^ 64 := by
  have hx : x.take (e + 1) = x.take e ++ [x[e]] := List.take_succ_eq_append_getElem he
  have hl : (x.take e).length = e := by rw [List.length_take]; omega
  rw [hx]
  refine ⟨(num_back _ _ ?_ h2 fun h => h3 ?_).1, ?_⟩
  · intro c hc
    obtain ⟨i, hi, rfl⟩ := List.getElem_of_mem hc
    rw [List.getElem_take]
    have := h1 i (by omega) (by omega)
    omega
  · rcases Nat.eq_zero_or_pos e with h0 | h0
    · subst h0; simp at h
    · exact h0
  · have h5 := valN_lt (x.take e) x[e] h2
    rw [hl] at h5
    rcases Nat.lt_or_ge e 9 with h6 | h6
    · have h7 : 128 ^ e ≤ 128 ^ 8 := Nat.pow_le_pow_right (by decide) (by omega)
      have h8 : 128 ^ 8 = 72057594037927936 := by decide
      have h9 : (x[e].toNat + 1) * 128 ^ e ≤ 128 * 128 ^ 8 := Nat.mul_le_mul (by omega) h7
      omega
    · have h7 : e = 9 := by omega
      have h8 := h4 h7
      have h10 : 128 ^ e = 9223372036854775808 := by rw [h7]
      have h9 : (x[e].toNat + 1) * 128 ^ e ≤ 2 * 128 ^ e := Nat.mul_le_mul (by omega) (Nat.le_refl _)
      rw [h10] at h9 h5
      omega
theorem endN_ge (x : List UInt8) : -1 ≤ endN x := idx_ge _
theorem endN_at {x : List UInt8} {e : Nat} (h : endN x = e) : e < x.length ∧ e ≤ 9 ∧ (∀ he : e < x.length, x[e].toNat < 128) ∧ ∀ i, ∀ hi : i < x.length, i < e → ¬ x[i].toNat < 128 := by
  have h1 := idx_at (p := small7) (l := x.take 10) (k := e) h
  obtain ⟨⟨hk, h2⟩, h3⟩ := h1
  rw [List.length_take] at hk
  refine ⟨by omega, by omega, fun he => ?_, fun i hi hie => ?_⟩
  · rw [List.getElem_take] at h2
    exact of_decide_eq_true h2
  · have := h3 i (by rw [List.length_take]; omega) hie
    rw [List.getElem_take] at this
    exact of_decide_eq_false this
/-- No number. -/
theorem no_num {x : List UInt8} (h : endN x < 0 ∨ (0 < endN x ∧ ∃ he : (endN x).toNat < x.length, x[(endN x).toNat].toNat = 0) ∨ (endN x = 9 ∧ ∃ he : (endN x).toNat < x.length, 1 < x[(endN x).toNat].toNat)) (q : BitVec 64) (r : List UInt8) : x ≠ num q.toNat ++ r := by
  intro e
  obtain ⟨k, h1, hk, _, _, h2, h3, _, _⟩ := num_stands q.isLt e
  rw [h1] at h
  simp only [Int.toNat_natCast] at h
  rcases h with h | ⟨h, _, h4⟩ | ⟨h, _, h4⟩
  · omega
  · exact h2 (by omega) h4
  · have := h3 (by omega); omega
theorem valN_step {x : List UInt8} {e i : Nat} (hi : i ≤ e) (he : e < x.length) : valN ((x.take (e + 1)).drop i) = (x[i]'(by omega)).toNat % 128 + 128 * valN ((x.take (e + 1)).drop (i + 1)) := by
  have h1 : i < (x.take (e + 1)).length := by rw [List.length_take]; omega
  rw [List.drop_eq_getElem_cons h1, valN, List.getElem_take]
/-- A group behind a number. -/
theorem group (n : Nat) (c : UInt8) : (BitVec.ofNat 64 n <<< 7) ||| ((c.toBitVec &&& ~~~128#8).setWidth 64) = BitVec.ofNat 64 (c.toNat % 128 + 128 * n) := by
  have h1 : (c.toBitVec &&& ~~~128#8) = BitVec.ofNat 8 (c.toNat % 128) := by
    have : ∀ b : BitVec 8, b &&& ~~~128#8 = BitVec.ofNat 8 (b.toNat % 128) := by decide +kernel
    exact this c.toBitVec
  have hc : c.toNat % 128 < 128 := Nat.mod_lt _ (by decide)
  rw [h1]
  have h2 : (BitVec.ofNat 64 n <<< 7) &&& (BitVec.ofNat 8 (c.toNat % 128)).setWidth 64 = 0#64 := by
    apply BitVec.eq_of_getLsbD_eq
    intro i hi
    rw [BitVec.getLsbD_and, BitVec.getLsbD_shiftLeft, BitVec.getLsbD_setWidth]
    by_cases h7 : i < 7
    · simp [h7]
    · have : (BitVec.ofNat 8 (c.toNat % 128)).getLsbD i = false := by
        rw [BitVec.getLsbD_ofNat]
        have : (c.toNat % 128).testBit i = false := Nat.testBit_lt_two_pow (Nat.lt_of_lt_of_le hc (by rw [show (128 : Nat) = 2 ^ 7 by decide]; exact Nat.pow_le_pow_right (by decide) (by omega)))
        simp [this]
      simp [this]
  rw [← BitVec.add_eq_or_of_and_eq_zero _ _ h2]
  apply BitVec.eq_of_toNat_eq
  simp only [BitVec.toNat_add, BitVec.toNat_shiftLeft, BitVec.toNat_ofNat, BitVec.toNat_setWidth, Nat.shiftLeft_eq]
  omega
theorem valN_front {x : List UInt8} {i : Nat} (hi : i < x.length) : valN (x.take (i + 1)) = valN (x.take i) + x[i].toNat % 128 * 128 ^ i := by
  have key : ∀ (l : List UInt8) (c : UInt8), valN (l ++ [c]) = valN l + c.toNat % 128 * 128 ^ l.length := by
    intro l c
    induction l with
    | nil => simp only [List.nil_append, valN, List.length_nil, Nat.pow_zero]; omega
    | cons a l ih =>
      simp only [List.cons_append, valN, ih, List.length_cons, Nat.pow_succ]
      rw [Nat.mul_add, ← Nat.mul_assoc, Nat.mul_comm 128 (c.toNat % 128), Nat.mul_assoc, Nat.mul_comm 128 (128 ^ l.length)]
      omega
  rw [List.take_succ_eq_append_getElem hi, key, List.length_take, Nat.min_eq_left (Nat.le_of_lt hi)]
/-- A group above a number. -/
theorem group2 (n i : Nat) (c : BitVec 8) : BitVec.ofNat 64 n + ((c % 128#8).setWidth 64 <<< (7 * i)) = BitVec.ofNat 64 (n + c.toNat % 128 * 128 ^ i) := by
  apply BitVec.eq_of_toNat_eq
  have h1 : 128 ^ i = 2 ^ (7 * i) := by rw [Nat.pow_mul]
  simp only [BitVec.toNat_add, BitVec.toNat_shiftLeft, BitVec.toNat_ofNat, BitVec.toNat_setWidth, BitVec.toNat_umod, Nat.shiftLeft_eq, h1]
  have h2 : c.toNat % (128 % 2 ^ 8) % 2 ^ 64 = c.toNat % 128 := by rw [show (128 % 2 ^ 8 : Nat) = 128 by decide]; omega
  rw [h2]
  omega
end Go.Pn.Cn
end
section
/-
  PLAIN LAWS OF READING: the outcome of reading a number, and lists that own their blocks. Of no program.
-/
namespace Go.Pn.Cn
open Go Go.Pn
theorem take_min (x : List UInt8) : x.take (min x.length 10) = x.take 10 := by
  rw [List.take_eq_take_iff]
  omega
/-- What stands there is no number, though a group ends. -/
def badN (x : List UInt8) (e : Int) : Prop := e < 0 ∨ (0 < e ∧ (x.getD e.toNat 0).toNat = 0) ∨ (e = 9 ∧ 1 < (x.getD e.toNat 0).toNat)
instance (x : List UInt8) (e : Int) : Decidable (badN x e) := by unfold badN; infer_instance
theorem getD_at {x : List UInt8} {k : Nat} (h : k < x.length) : x.getD k 0 = x[k] := by rw [List.getD_eq_getElem?_getD, List.getElem?_eq_getElem h]; rfl
theorem bad_no {l : List UInt8} {k : Nat} {e : Int} (he : e = endN (l.drop k)) (h : badN (l.drop k) e) : No (fun _ : BitVec 64 => True) (fun q => num q.toNat) l k := by
  intro q r _
  refine no_num ?_ q r
  subst he
  rcases h with h | ⟨h, h2⟩ | ⟨h, h2⟩
  · exact .inl h
  · obtain ⟨hx, _⟩ := endN_at (x := l.drop k) (e := (endN (l.drop k)).toNat) (by omega)
    rw [getD_at hx] at h2
    exact .inr (.inl ⟨h, hx, h2⟩)
  · obtain ⟨hx, _⟩ := endN_at (x := l.drop k) (e := (endN (l.drop k)).toNat) (by omega)
    rw [getD_at hx] at h2
    exact .inr (.inr ⟨h, hx, h2⟩)
theorem good_num {l : List UInt8} {k : Nat} {e : Int} (hk : k ≤ l.length) (he : e = endN (l.drop k)) (h : ¬ badN (l.drop k) e) :
    Seg (num (BitVec.ofNat 64 (valN ((l.drop k).take (e.toNat + 1)))).toNat) l k (k + (e.toNat + 1)) := by
  unfold badN at h
  have h0 : 0 ≤ e := by omega
  obtain ⟨h1, h2, h3, h4⟩ := endN_at (x := l.drop k) (e := e.toNat) (by omega)
  rw [getD_at h1] at h
  obtain ⟨h5, h6⟩ := stands_num h1 h2 h4 (h3 h1) (fun _ => by omega) (fun _ => by omega)
  rw [BitVec.toNat_ofNat, Nat.mod_eq_of_lt h6, h5]
  have hl : ((l.drop k).take (e.toNat + 1)).length = e.toNat + 1 := by rw [List.length_take]; omega
  have := Seg.take (l := l) (k := k) (s := (l.drop k).take (e.toNat + 1)) (by rw [hl]) (by rw [hl]; rw [List.length_drop] at h1; omega)
  rw [hl] at this
  exact this
theorem len_flat {α : Type} {f : α → List UInt8} (hf : ∀ x, 1 ≤ (f x).length) (l : List α) : l.length ≤ (l.flatMap f).length := by
  induction l with
  | nil => simp
  | cons x l ih => have := hf x; simp only [List.flatMap_cons, List.length_append, List.length_cons]; omega
theorem dotB_ge (d : Dot) : 1 ≤ (dotB d).length := by unfold dotB; have := num_len (u d.1); rw [List.length_append]; omega
theorem markB_ge (m : Mark) : 1 ≤ (markB m).length := by unfold markB; have := num_len (u m.1.1); rw [List.length_append]; omega
theorem itemB_ge (x : Item) : 1 ≤ (itemB x).length := by unfold itemB strB; have := num_len x.1.length; simp only [List.length_append]; omega
/-- What is read, before it is looked at as a whole. -/
def dotQ (d : Dot) : Prop := (0 ≤ d.1 ∧ d.1 ≤ 65535) ∧ (0 ≤ d.2 ∧ d.2 ≤ 4294967295)
def markQ (m : Mark) : Prop := dotQ m.1 ∧ (0 ≤ m.2.1 ∧ m.2.1 ≤ 2147483647)
def itemQ (x : Item) : Prop := x.1.length ≤ 64 ∧ ∀ m ∈ x.2, markQ m
theorem dotQ_R {d : Dot} (h : dotQ d) : dotR d := by unfold dotQ at h; unfold dotR InR; omega
theorem markQ_R {m : Mark} (h : markQ m) : markR m := by unfold markQ dotQ at h; unfold markR InR; omega
theorem pre_mono {α : Type} {Q Q' : α → Prop} {f : α → List UInt8} (h : Pre Q f) (hq : ∀ x, Q' x → Q x) : Pre Q' f := fun x y r s hx hy e => h x y r s (hq x hx) (hq y hy) e
theorem pre_dotQ : Pre dotQ dotB := pre_mono pre_dot fun _ => dotQ_R
theorem pre_markQ : Pre markQ markB := pre_mono pre_mark fun _ => markQ_R
theorem pre_itemQ : Pre itemQ itemB := pre_mono pre_item fun _ h m hm => markQ_R (h.2 m hm)
theorem no_str {l : List UInt8} {k k1 : Nat} {n : BitVec 64} {m : Int} (hn : Seg (num n.toNat) l k k1) (h : m < n.toNat ∨ l.length - k1 < n.toNat) : No (fun s : List UInt8 => (s.length : Int) ≤ m) strB l k := by
  intro s r hs e
  unfold strB at e
  rw [hn.1, List.append_assoc] at e
  obtain ⟨h1, h2⟩ := num_pre _ _ _ _ e
  have h3 := congrArg List.length h2
  simp only [List.length_drop, List.length_append] at h3
  have := hn.2.2
  omega
theorem no_str_len {l : List UInt8} {k : Nat} {m : Int} (h : No (fun _ : BitVec 64 => True) (fun q => num q.toNat) l k) (hl : l.length < 2 ^ 64) : No (fun s : List UInt8 => (s.length : Int) ≤ m) strB l k := by
  intro s r hs e
  unfold strB at e
  have h3 := congrArg List.length e
  simp only [List.length_drop, List.length_append] at h3
  refine h (BitVec.ofNat 64 s.length) (s ++ r) trivial ?_
  show l.drop k = num (BitVec.ofNat 64 s.length).toNat ++ (s ++ r)
  rw [BitVec.toNat_ofNat, Nat.mod_eq_of_lt (by omega), e, List.append_assoc]
theorem seg_str {l : List UInt8} {k k1 : Nat} {n : BitVec 64} (hn : Seg (num n.toNat) l k k1) (h : n.toNat ≤ l.length - k1) : Seg (strB ((l.drop k1).take n.toNat)) l k (k1 + n.toNat) := by
  have hle := hn.2.2
  have hl : ((l.drop k1).take n.toNat).length = n.toNat := by rw [List.length_take, List.length_drop]; omega
  have h2 := Seg.take (l := l) (k := k1) (s := (l.drop k1).take n.toNat) (by rw [hl]) (by rw [hl]; omega)
  rw [hl] at h2
  unfold strB
  rw [hl]
  exact hn.app h2
theorem no_most {l : List UInt8} {k k1 m : Nat} {n : BitVec 64} (hn : Seg (num n.toNat) l k k1) (h : m < n.toNat) : No (fun q : BitVec 64 => q.toNat ≤ m) (fun q => num q.toNat) l k := by
  intro q r hq e
  obtain ⟨rfl, _⟩ := hn.uniq (f := fun q : BitVec 64 => num q.toNat) pre_num trivial trivial e
  omega
end Go.Pn.Cn
end
section
/-
  A slice made with room, and what is appended into the room. No condition beyond what each rule asks.
-/
namespace Go.Pn
open Go.RowKit
section
variable {P : Program} {n : Nat} {ops rest : List Oper} {N : Val → World → Prop} {Z : List PanicEntry → World → Prop} {f : Val} {w : World}
  {d : Nat} {x y : Operand} {t ty tr e : TypeId} {pos : String} {after : Array Edge} {α : Type} {G : Flat α} {F : Nat → Prop}
theorem Own0.whole {b c : Nat} {ys zs : List α} (h : Own0 w b e ((ys ++ zs).flatMap G.e)) (hc : ys.length + zs.length = c) (hm : c ≤ maxLen) : Sl G.enc w (fun k => k = b) (.slice (some ⟨b, 0, none⟩) c c) (ys ++ zs) := by
  have hl : (ys ++ zs).length = c := by rw [List.length_append, hc]
  have := Sl.of_own (xs := ys ++ zs) (cap := c) h.own (by rw [← G.length, List.take_length]) (by omega) hm (by rw [G.length, hl]; exact Nat.le_refl _)
  rwa [hl] at this
end
end Go.Pn
end
section
/-
  Calls that may panic; a panic of the text's own. No condition.
-/
namespace Go.Pn
section
variable {P : Program} {n : Nat} {ops rest : List Oper} {N : Val → World → Prop} {Z : List PanicEntry → World → Prop} {f : Val} {w : World}

/-- A call of a function that returns or panics. -/
theorem O.callZ {d k : Nat} {xs : List Operand} {vs : List Value} {ats : Array TypeId} {ty : TypeId} {pos : String} {after : Array Edge} {Post : Value → World → Prop} {Z' : List PanicEntry → World → Prop}
    (hk : ∀ args w, (callFunc k args).run P w = .ok (.enter k args) w) (hxs : xs.map (ev n f) = vs)
    (hc : RetZ P k vs.toArray w Post Z') (hz : ∀ ch w', Z' ch w' → Z ch w') (h : ∀ v w', Post v w' → O P n ops rest N Z (upd f d v) w') :
    O P n ops ({ dst := some d, op := .call { callee := .value (.func k), args := xs.toArray, argTypes := ats }, type := ty, pos := pos, after := after, guard := .none } :: rest) N Z f w := by
  subst hxs
  unfold O at h ⊢
  refine wpList_plain rfl fun K hK => ?_
  have hrun : (execOp (ev n f) { dst := some d, op := .call { callee := .value (.func k), args := xs.toArray, argTypes := ats }, type := ty, pos := pos, after := after, guard := .none }).run P w = .ok (.enter k (xs.map (ev n f)).toArray) w := by
    simp [execOp, resolve, Deferred.ofValue, invoke, ev, hk]
  simp only [Oper.wp, eval_Fr, hrun, Oper.upon_enter]
  refine Calls.mono hc ?_
  intro e w' he
  cases e with
  | returned v => show K ((Fr n f).put (some d) v) w'; rw [put_Fr]; exact hK _ _ (h v w' he)
  | panicked ch => exact ⟨rfl, hz ch w' he⟩
  | outgrown => exact he.elim
/-- A panic of the text's own. -/
theorem O.panics {dst : Option Nat} {x : Operand} {t : TypeId} {v : Value} {ty : TypeId} {pos : String} {after : Array Edge} (hx : ev n f x = .iface t v) (h : Z [{ v := .iface t v, recovered := false }] w) :
    O P n ops ({ dst := dst, op := .panic x, type := ty, pos := pos, after := after, guard := .none } :: rest) N Z f w := by
  unfold O
  refine wpList_plain rfl fun K hK => ?_
  have hrun : (execOp (ev n f) { dst := dst, op := .panic x, type := ty, pos := pos, after := after, guard := .none }).run P w = .halt (.panic (.iface t v)) w := by
    simp [execOp, hx, run_panic_iface]
  simp only [Oper.wp, eval_Fr, hrun, Oper.upon_panic]
  exact ⟨rfl, h⟩
end
section
variable {P : Program} {n : Nat} {ops rest : List Oper} {N : Val → World → Prop} {Z : List PanicEntry → World → Prop} {f : Val} {w : World}
  {d : Nat} {x y : Operand} {t t' ty : TypeId} {pos : String} {after : Array Edge} {a b : Int} {k : IntKind}
end
end Go.Pn
end
section
/-
  PLAIN LAWS OF READING: dots, marks, items, contexts and carts that stand at a place, or do not. Of no program.
-/
namespace Go.Pn.Cn
open Go Go.Pn
theorem pos_ofNat {m : Nat} (hm : m < 2 ^ 64) : (0#64 < BitVec.ofNat 64 m) ↔ 0 < m := by
  rw [BitVec.lt_def, BitVec.toNat_ofNat, BitVec.toNat_ofNat, Nat.mod_eq_of_lt hm, Nat.zero_mod]
theorem dec_ofNat {m : Nat} (h : 0 < m) (hm : m < 2 ^ 64) : BitVec.ofNat 64 m - 1#64 = BitVec.ofNat 64 (m - 1) := by
  apply BitVec.eq_of_toNat_eq
  simp only [BitVec.toNat_sub, BitVec.toNat_ofNat]
  omega
abbrev NumQ (m : Nat) (l : List UInt8) (k : Nat) : Prop := No (fun q : BitVec 64 => q.toNat ≤ m) (fun q => num q.toNat) l k
abbrev NumA (l : List UInt8) (k : Nat) : Prop := No (fun _ : BitVec 64 => True) (fun q => num q.toNat) l k
abbrev SegN (q : BitVec 64) (l : List UInt8) (k k' : Nat) : Prop := Seg (num q.toNat) l k k'
theorem numA_of {l : List UInt8} {k m : Nat} (h : NumQ m l k) (hm : 2 ^ 64 - 1 ≤ m) : NumA l k := h.mono fun q _ => by have := q.isLt; omega
section
variable {l : List UInt8} {k k1 k2 k3 k4 : Nat} {n m q t : BitVec 64} {d : Dot}
theorem segI (h : SegN n l k k1) : Seg (num (u n.toInt)) l k k1 := h.cast (by rw [u_toInt])
theorem noI {m : Nat} {M : Int} (h : NumQ m l k) (hm : m < 2 ^ 63) (hM : M = m) : No (fun x : Int => 0 ≤ x ∧ x ≤ M) (fun x => num (u x)) l k := by subst hM; exact h.int hm
theorem inI {n : BitVec 64} {m : Nat} {M : Int} (h : n.toNat ≤ m) (hm : m < 2 ^ 63) (hM : M = m) : 0 ≤ n.toInt ∧ n.toInt ≤ M := by subst hM; exact toInt_le h hm
theorem pre_uQ (M : Int) (hM : M < 2 ^ 63) : Pre (fun x : Int => 0 ≤ x ∧ x ≤ M) fun x => num (u x) := pre_mono pre_u fun x hx => by unfold InR; omega
theorem no_dot1 (h : NumQ 65535 l k) : No dotQ dotB l k := No.fst (Q' := fun x : Int => 0 ≤ x ∧ x ≤ 4294967295) (g := fun x : Int => num (u x)) (noI h (by decide) rfl)
theorem no_dot2 (hs : SegN n l k k1) (hn : n.toNat ≤ 65535) (h : NumQ 4294967295 l k1) : No dotQ dotB l k :=
  No.snd (f := fun x : Int => num (u x)) (x := n.toInt) (segI hs) (pre_uQ 65535 (by decide)) (inI hn (by decide) rfl) (noI h (by decide) rfl)
theorem seg_dot (h : SegN n l k k1) (h' : SegN m l k1 k2) : Seg (dotB (n.toInt, m.toInt)) l k k2 := (segI h).app (segI h')
theorem dotQ_mk (h : n.toNat ≤ 65535) (h' : m.toNat ≤ 4294967295) : dotQ (n.toInt, m.toInt) := ⟨inI h (by decide) rfl, inI h' (by decide) rfl⟩
theorem markB_eq : markB = fun x : Mark => dotB x.1 ++ (num (u x.2.1) ++ num x.2.2.toNat) := by funext x; unfold markB dotB; rw [List.append_assoc]
abbrev qtyQ : Int × BitVec 64 → Prop := fun x => (0 ≤ x.1 ∧ x.1 ≤ 2147483647) ∧ True
theorem no_mark (h : No (fun x : Dot × (Int × BitVec 64) => dotQ x.1 ∧ qtyQ x.2) (fun x => dotB x.1 ++ (num (u x.2.1) ++ num x.2.2.toNat)) l k) : No markQ markB l k := by
  rw [markB_eq]
  exact h.mono fun x hx => ⟨hx.1, hx.2, trivial⟩
theorem no_mark1 (h : No dotQ dotB l k) : No markQ markB l k := no_mark (No.fst (Q' := qtyQ) (g := fun x : Int × BitVec 64 => num (u x.1) ++ num x.2.toNat) h)
theorem no_mark2 (hd : Seg (dotB d) l k k1) (hq : dotQ d) (h : NumQ 2147483647 l k1) : No markQ markB l k :=
  no_mark (No.snd hd pre_dotQ hq (No.fst (Q' := fun _ : BitVec 64 => True) (g := fun q : BitVec 64 => num q.toNat) (noI h (by decide) rfl)))
theorem no_mark3 (hd : Seg (dotB d) l k k1) (hq : dotQ d) (hn : SegN q l k1 k2) (hq2 : q.toNat ≤ 2147483647) (h : NumA l k2) : No markQ markB l k :=
  no_mark (No.snd hd pre_dotQ hq (No.snd (f := fun x : Int => num (u x)) (g := fun q : BitVec 64 => num q.toNat) (x := q.toInt) (segI hn) (pre_uQ 2147483647 (by decide)) (inI hq2 (by decide) rfl) h))
theorem seg_mark (hd : Seg (dotB d) l k k1) (hn : SegN q l k1 k2) (ht : SegN t l k2 k3) : Seg (markB (d, q.toInt, t)) l k k3 := by
  rw [markB_eq]
  exact hd.app ((segI hn).app ht)
theorem markQ_mk (h : dotQ d) (hq : q.toNat ≤ 2147483647) : markQ (d, q.toInt, t) := ⟨h, inI hq (by decide) rfl⟩
/-! lists -/
section
variable {α : Type} {Q : α → Prop} {f : α → List UInt8}
def manyB (f : α → List UInt8) (xs : List α) : List UInt8 := num xs.length ++ xs.flatMap f
def manyQ (Q : α → Prop) (xs : List α) : Prop := ∀ x ∈ xs, Q x
theorem pre_manyQ (h : Pre Q f) : Pre (manyQ Q) (manyB f) := pre_list h
theorem no_many1 (h : NumA l k) (hf : ∀ x, 1 ≤ (f x).length) (hl : l.length < 2 ^ 64) : No (manyQ Q) (manyB f) l k := No.len h hf hl
theorem no_many2 {ds : List α} (hn : SegN n l k k1) (hp : Pre Q f) (hq : manyQ Q ds) (hs : Seg (ds.flatMap f) l k1 k2) (hj : ds.length < n.toNat) (h : No Q f l k2) : No (manyQ Q) (manyB f) l k := No.many hn hp hq hs hj h
theorem seg_many {ds : List α} (hn : SegN n l k k1) (hs : Seg (ds.flatMap f) l k1 k2) (hj : ds.length = n.toNat) : Seg (manyB f ds) l k k2 := Seg.many hn hs hj
theorem manyQ_nil : manyQ Q ([] : List α) := fun _ h => by cases h
theorem manyQ_snoc {ds : List α} {d : α} (h : manyQ Q ds) (hd : Q d) : manyQ Q (ds ++ [d]) := fun x hx => by
  rcases List.mem_append.1 hx with hx | hx
  · exact h x hx
  · rw [List.mem_singleton.1 hx]; exact hd
theorem seg_len {ds : List α} (hf : ∀ x, 1 ≤ (f x).length) (hs : Seg (ds.flatMap f) l k k1) : ds.length ≤ k1 - k ∧ k1 ≤ l.length := by
  have h1 := len_flat hf ds
  have h2 := hs.2.1
  exact ⟨by omega, hs.2.2⟩
end
/-! items -/
theorem itemB_eq : itemB = fun x : Item => strB x.1 ++ manyB markB x.2 := rfl
abbrev nameQ : List UInt8 → Prop := fun s => (s.length : Int) ≤ 64
theorem pre_nameQ : Pre nameQ strB := pre_mono pre_str fun _ _ => trivial
theorem no_item (h : No (fun x : Item => nameQ x.1 ∧ manyQ markQ x.2) (fun x => strB x.1 ++ manyB markB x.2) l k) : No itemQ itemB l k := by
  rw [itemB_eq]
  exact h.mono fun x hx => ⟨by have := hx.1; show (x.1.length : Int) ≤ 64; omega, hx.2⟩
theorem no_item1 (h : No nameQ strB l k) : No itemQ itemB l k := no_item (No.fst h)
theorem no_item2 {s : List UInt8} (hs : Seg (strB s) l k k1) (hq : nameQ s) (h : No (manyQ markQ) (manyB markB) l k1) : No itemQ itemB l k := no_item (No.snd hs pre_nameQ hq h)
theorem seg_item {s : List UInt8} {ms : List Mark} (hs : Seg (strB s) l k k1) (hm : Seg (manyB markB ms) l k1 k2) : Seg (itemB (s, ms)) l k k2 := hs.app hm
theorem itemQ_mk {s : List UInt8} {ms : List Mark} (hs : nameQ s) (hm : manyQ markQ ms) : itemQ (s, ms) := ⟨by have : (s.length : Int) ≤ 64 := hs; show s.length ≤ 64; omega, hm⟩
/-! contexts and carts -/
abbrev ctxQ : Ctx → Prop := fun x => manyQ dotQ x.1 ∧ manyQ dotQ x.2
theorem pre_ctxQ : Pre ctxQ ctxB := pre_pair (pre_manyQ pre_dotQ) (pre_manyQ pre_dotQ)
theorem okQ {d : Dot} (h : badD d = false) : dotQ d := by have := okD_of h; unfold Dt.Valid at this; unfold dotQ; omega
theorem compactQ {x : Ctx} (h : isCompact x = true) : ctxQ x := by
  unfold isCompact ctxValid vecValid at h
  simp only [Bool.and_eq_true] at h
  obtain ⟨⟨⟨_, h1⟩, _, h2⟩, _⟩ := h
  exact ⟨fun d hd => okQ (any_false h1 d hd), fun d hd => okQ (any_false h2 d hd)⟩
abbrev comp : Ctx → Prop := fun x => isCompact x = true
theorem no_ctx1 (h : No (manyQ dotQ) (manyB dotB) l k) : No ctxQ ctxB l k := No.fst h
theorem no_ctx2 {v : List Dot} (hs : Seg (manyB dotB v) l k k1) (hq : manyQ dotQ v) (h : No (manyQ dotQ) (manyB dotB) l k1) : No ctxQ ctxB l k := No.snd hs (pre_manyQ pre_dotQ) hq h
theorem no_comp (h : No ctxQ ctxB l k) : No comp ctxB l k := h.mono fun _ => compactQ
theorem no_comp3 {x : Ctx} (hs : Seg (ctxB x) l k k1) (hq : ctxQ x) (h : isCompact x = false) : No comp ctxB l k := fun y r hy e => by
  obtain ⟨rfl, _⟩ := hs.uniq pre_ctxQ hq (compactQ hy) e
  rw [show isCompact x = true from hy] at h
  cases h
theorem seg_ctx {v c : List Dot} (hs : Seg (manyB dotB v) l k k1) (hs' : Seg (manyB dotB c) l k1 k2) : Seg (ctxB (v, c)) l k k2 := hs.app hs'
abbrev cartQ : Cart → Prop := fun c => comp c.1 ∧ manyQ itemQ c.2
theorem pre_comp : Pre comp ctxB := pre_mono pre_ctxQ fun _ => compactQ
theorem pre_cartQ : Pre cartQ bytes := pre_pair pre_comp (pre_manyQ pre_itemQ)
theorem okNameLen {s : List UInt8} (h : okName s = true) : s.length ≤ 64 := by
  unfold okName at h
  simp only [Bool.and_eq_true, decide_eq_true_eq] at h
  exact h.2.1.2
theorem okMQ {m : Mark} (h : badM m = false) : markQ m := by
  have h : okM m = true := by unfold badM at h; simpa using h
  unfold okM at h
  simp only [Bool.and_eq_true, decide_eq_true_eq] at h
  obtain ⟨h1, h2, _⟩ := h
  refine ⟨okQ (by unfold badD; rw [h1]; rfl), by omega⟩
theorem okIQ {x : Item} (h : badI x = false) : itemQ x := by
  unfold badI at h
  simp only [Bool.or_eq_false_iff, Bool.not_eq_false'] at h
  obtain ⟨h1, _, _, h2⟩ := h
  exact ⟨okNameLen h1, fun m hm => okMQ (any_false (by rw [h2]; rfl) m hm)⟩
theorem validQ {c : Cart} (h : valid c = true) : cartQ c := by
  unfold valid itemsValid at h
  simp only [Bool.and_eq_true] at h
  obtain ⟨h1, ⟨h2, _⟩, _⟩ := h
  exact ⟨h1, fun x hx => okIQ (any_false h2 x hx)⟩
/-- How great a cart may be. -/
def big (c : Cart) : Prop := c.1.1.length ≤ 1000000 ∧ c.1.2.length ≤ 1000000 ∧ c.2.length ≤ 1000000 ∧ ∀ x ∈ c.2, x.1.length ≤ 1000000 ∧ x.2.length ≤ 1000000
abbrev val : Cart → Prop := fun c => valid c = true
theorem pre_val : Pre val bytes := pre_mono pre_cartQ fun _ => validQ
theorem no_val (h : No cartQ bytes l k) : No val bytes l k := h.mono fun _ => validQ
theorem no_cart1 (h : No comp ctxB l k) : No cartQ bytes l k := No.fst h
theorem no_cart2 {x : Ctx} (hs : Seg (ctxB x) l k k1) (hx : isCompact x = true) (h : No (manyQ itemQ) (manyB itemB) l k1) : No cartQ bytes l k := No.snd hs pre_comp hx h
theorem seg_cart {x : Ctx} {its : List Item} (hs : Seg (ctxB x) l k k1) (hs' : Seg (manyB itemB its) l k1 k2) : Seg (bytes (x, its)) l k k2 := hs.app hs'
theorem no_val3 {c : Cart} (hs : Seg (bytes c) l k k1) (hq : cartQ c) (h : valid c = false) : No val bytes l k := fun y r hy e => by
  obtain ⟨rfl, _⟩ := hs.uniq pre_cartQ hq (validQ hy) e
  rw [show valid c = true from hy] at h
  cases h
/-! the reference: numbers of all sizes -/
theorem noR (h : NumA l k) : No InR (fun x => num (u x)) l k := h.intR
theorem no_dotR1 (h : NumA l k) : No dotR dotB l k := No.fst (Q' := InR) (g := fun x : Int => num (u x)) (noR h)
theorem no_dotR2 (hs : SegN n l k k1) (h : NumA l k1) : No dotR dotB l k := No.snd (f := fun x : Int => num (u x)) (x := n.toInt) (segI hs) pre_u (toInt_R n) (noR h)
theorem dotR_mk : dotR (n.toInt, m.toInt) := ⟨toInt_R n, toInt_R m⟩
theorem no_markR (h : No (fun x : Dot × (Int × BitVec 64) => dotR x.1 ∧ (InR x.2.1 ∧ True)) (fun x => dotB x.1 ++ (num (u x.2.1) ++ num x.2.2.toNat)) l k) : No markR markB l k := by
  rw [markB_eq]
  exact h.mono fun x hx => ⟨⟨hx.1, hx.2.1⟩, hx.2.2, trivial⟩
theorem no_markR1 (h : No dotR dotB l k) : No markR markB l k := no_markR (No.fst (Q' := fun x : Int × BitVec 64 => InR x.1 ∧ True) (g := fun x : Int × BitVec 64 => num (u x.1) ++ num x.2.toNat) h)
theorem no_markR2 (hd : Seg (dotB d) l k k1) (hq : dotR d) (h : NumA l k1) : No markR markB l k := no_markR (No.snd hd pre_dot hq (No.fst (Q' := fun _ : BitVec 64 => True) (g := fun q : BitVec 64 => num q.toNat) (noR h)))
theorem no_markR3 (hd : Seg (dotB d) l k k1) (hq : dotR d) (hn : SegN q l k1 k2) (h : NumA l k2) : No markR markB l k :=
  no_markR (No.snd hd pre_dot hq (No.snd (f := fun x : Int => num (u x)) (g := fun q : BitVec 64 => num q.toNat) (x := q.toInt) (segI hn) pre_u (toInt_R q) h))
theorem markR_mk (h : dotR d) : markR (d, q.toInt, t) := ⟨h.1, h.2, toInt_R q⟩
abbrev itemR : Item → Prop := fun x => manyQ markR x.2
theorem pre_itemR : Pre itemR itemB := pre_item
theorem no_itemR (h : No (fun x : Item => True ∧ manyQ markR x.2) (fun x => strB x.1 ++ manyB markB x.2) l k) : No itemR itemB l k := by
  rw [itemB_eq]
  exact h.mono fun x hx => ⟨trivial, hx⟩
theorem no_itemR1 (h : No (fun _ : List UInt8 => True) strB l k) : No itemR itemB l k := no_itemR (No.fst h)
theorem no_itemR2 {s : List UInt8} (hs : Seg (strB s) l k k1) (h : No (manyQ markR) (manyB markB) l k1) : No itemR itemB l k := no_itemR (No.snd hs pre_str trivial h)
abbrev ctxR : Ctx → Prop := fun x => manyQ dotR x.1 ∧ manyQ dotR x.2
theorem pre_ctxR : Pre ctxR ctxB := pre_pair (pre_manyQ pre_dot) (pre_manyQ pre_dot)
theorem no_ctxR1 (h : No (manyQ dotR) (manyB dotB) l k) : No ctxR ctxB l k := No.fst h
theorem no_ctxR2 {v : List Dot} (hs : Seg (manyB dotB v) l k k1) (hq : manyQ dotR v) (h : No (manyQ dotR) (manyB dotB) l k1) : No ctxR ctxB l k := No.snd hs (pre_manyQ pre_dot) hq h
theorem no_cartR1 (h : No ctxR ctxB l k) : No cartR bytes l k := No.fst (Q' := manyQ itemR) (g := manyB itemB) h
theorem no_cartR2 {x : Ctx} (hs : Seg (ctxB x) l k k1) (hx : ctxR x) (h : No (manyQ itemR) (manyB itemB) l k1) : No cartR bytes l k := No.snd (Q' := manyQ itemR) (g := manyB itemB) hs pre_ctxR hx h
end
end Go.Pn.Cn
namespace Go.Pn.Cn
/-- What reading a cart from the front gives. -/
def Pref (l : List UInt8) (c : Cart) (k : Nat) (e : Int) : Prop := (e = 0 ∧ valid c = true ∧ Seg (bytes c) l 0 k) ∨ (e = 12 ∧ k = 0 ∧ c = nil0 ∧ No val bytes l 0)
/-- What reading a context gives. -/
def CtxRes (l : List UInt8) (x : Ctx) (e : Int) : Prop := (e = 0 ∧ isCompact x = true ∧ l = ctxB x) ∨ (e = 12 ∧ x = ([], []) ∧ ∀ y, comp y → l ≠ ctxB y)
/-- What reading a cart gives. -/
def CartRes (l : List UInt8) (c : Cart) (e : Int) : Prop := (e = 0 ∧ valid c = true ∧ l = bytes c) ∨ (e = 12 ∧ c = nil0 ∧ ∀ y, val y → l ≠ bytes y)
theorem big_nil0 : big nil0 := ⟨by decide, by decide, by decide, fun _ h => by cases h⟩
theorem no_whole {α : Type} {Q : α → Prop} {f : α → List UInt8} {l : List UInt8} (h : No Q f l 0) (y : α) (hy : Q y) : l ≠ f y := fun e => h y [] hy (by rw [List.drop_zero, e, List.append_nil])
theorem seg_whole {s l : List UInt8} {k : Nat} (h : Seg s l 0 k) (hk : k = l.length) : l = s := by
  have := h.1
  rw [hk, List.drop_zero, List.drop_length, List.append_nil] at this
  exact this
theorem seg_end {s l : List UInt8} {k : Nat} (h : Seg s l 0 k) : l = s ++ l.drop k := by have := h.1; rwa [List.drop_zero] at this
theorem ctx_more {l : List UInt8} {x : Ctx} {k : Nat} (hs : Seg (ctxB x) l 0 k) (hx : comp x) (hk : k < l.length) (y : Ctx) (hy : comp y) : l ≠ ctxB y := fun e => by
  have h1 : ctxB x ++ l.drop k = ctxB y ++ [] := by rw [List.append_nil, ← e]; exact (seg_end hs).symm
  obtain ⟨_, h2⟩ := pre_comp _ _ _ _ hx hy h1
  have := congrArg List.length h2
  simp only [List.length_drop, List.length_nil] at this
  omega
theorem cart_more {l : List UInt8} {x : Cart} {k : Nat} (hs : Seg (bytes x) l 0 k) (hx : val x) (hk : k ≠ l.length) (y : Cart) (hy : val y) : l ≠ bytes y := fun e => by
  have h1 : bytes x ++ l.drop k = bytes y ++ [] := by rw [List.append_nil, ← e]; exact (seg_end hs).symm
  obtain ⟨_, h2⟩ := pre_val _ _ _ _ hx hy h1
  have := congrArg List.length h2
  have := hs.2.2
  simp only [List.length_drop, List.length_nil] at *
  omega
end Go.Pn.Cn
end
section
/-
  Slices that may be written, of which nobody else knows; a cell of one of them written, whatever lies in it. No condition.
-/
namespace Go.Pn
open Go.RowKit
/-- A slice that may be written. -/
def Fre {α : Type} (G : Flat α) (ty : TypeId) (w : World) (F : Nat → Prop) (v : Value) (xs : List α) : Prop := OwnF G ty 0 w v xs ∧ ∀ k, bk v k → F k
abbrev Raw := Option Addr × Nat × Nat
section
variable {α : Type} {G : Flat α} {ty : TypeId} {B : Nat} {w w' : World} {F F' M : Nat → Prop} {v : Value} {xs : List α}
theorem OwnF.fre (h : OwnF G ty B w v xs) (hF : ∀ k, bk v k → F k) : Fre G ty w F v xs := ⟨h.low (Nat.zero_le _), hF⟩
theorem Fre.nil (G : Flat α) (ty : TypeId) (w : World) (F : Nat → Prop) : Fre G ty w F (.slice none 0 0) [] := ⟨OwnF.nil _ _ _ _, fun _ h => h.elim⟩
theorem Fre.keepM (h : Fre G ty w F v xs) (e : Ext M w w') (hM : ∀ k, F k → ¬ M k) : Fre G ty w' F v xs := ⟨h.1.keepM e fun k hk => hM k (h.2 k hk), h.2⟩
theorem Fre.keep (h : Fre G ty w F v xs) (e : Le w w') : Fre G ty w' F v xs := h.keepM e fun _ _ => not_false
theorem Fre.weak (h : Fre G ty w F v xs) (hF : ∀ k, F k → F' k) : Fre G ty w F' v xs := ⟨h.1, fun k hk => hF k (h.2 k hk)⟩
theorem Fre.sl (h : Fre G ty w F v xs) : Sl G.enc w F v xs := h.1.sl.weak h.2
theorem Fre.len {q : Raw} (h : Fre G ty w F (Go.Pn.slv q) xs) : q.2.1 = xs.length := by
  rcases h.1.1.2 with ⟨hv, h0⟩ | ⟨g, cap, cur, hv, _⟩
  · rw [h0]; simp only [Go.Pn.slv, Value.slice.injEq] at hv; exact hv.2.1
  · simp only [Go.Pn.slv, Value.slice.injEq] at hv; exact hv.2.1
theorem Fre.slv (h : Fre G ty w F v xs) : ∃ a, v = Go.Pn.slv a := h.sl.slv
end
/-- Items whose marks may be written. -/
def ItemsF (tm : TypeId) (w : World) (F : Nat → Prop) (raw : List (List UInt8 × Raw)) (xs : List ItemT) : Prop :=
  raw.length = xs.length ∧ ∀ i, ∀ h : i < raw.length, ∀ h' : i < xs.length, raw[i].1 = xs[i].1 ∧ Fre markF tm w F (slv raw[i].2) xs[i].2
section
variable {tm ti : TypeId} {w w' : World} {F F' M : Nat → Prop} {raw : List (List UInt8 × Raw)} {xs : List ItemT} {v : Value}
theorem ItemsF.nil : ItemsF tm w F [] [] := ⟨rfl, fun i h => by simp at h⟩
theorem ItemsF.keepM (h : ItemsF tm w F raw xs) (e : Ext M w w') (hM : ∀ k, F k → ¬ M k) : ItemsF tm w' F raw xs := ⟨h.1, fun i h1 h2 => ⟨(h.2 i h1 h2).1, (h.2 i h1 h2).2.keepM e hM⟩⟩
theorem ItemsF.keep (h : ItemsF tm w F raw xs) (e : Le w w') : ItemsF tm w' F raw xs := h.keepM e fun _ _ => not_false
theorem ItemsF.weak (h : ItemsF tm w F raw xs) (hF : ∀ k, F k → F' k) : ItemsF tm w F' raw xs := ⟨h.1, fun i h1 h2 => ⟨(h.2 i h1 h2).1, (h.2 i h1 h2).2.weak hF⟩⟩
theorem ItemsF.items (h : ItemsF tm w F raw xs) : Items w F raw xs := ⟨h.1, fun i h1 h2 => ⟨(h.2 i h1 h2).1, (h.2 i h1 h2).2.sl⟩⟩
theorem ItemsF.snoc {a : List UInt8 × Raw} {x : ItemT} (h : ItemsF tm w F raw xs) (hn : a.1 = x.1) (hm : Fre markF tm w F (slv a.2) x.2) : ItemsF tm w F (raw ++ [a]) (xs ++ [x]) := by
  refine ⟨by simp [h.1], fun i h1 h2 => ?_⟩
  have hl := h.1
  simp only [List.length_append, List.length_cons, List.length_nil] at h1
  by_cases hi : i < raw.length
  · rw [List.getElem_append_left hi, List.getElem_append_left (by omega)]
    exact h.2 i hi (by omega)
  · have e1 : i = raw.length := by omega
    subst e1
    rw [List.getElem_append_right (by omega), List.getElem_append_right (by omega)]
    simp only [Nat.sub_self, hl, List.getElem_cons_zero]
    exact ⟨hn, hm⟩
/-- A list of items that may be written. -/
def SlI (ti tm : TypeId) (w : World) (F : Nat → Prop) (v : Value) (xs : List ItemT) : Prop := ∃ raw, Fre itemF ti w F v raw ∧ ItemsF tm w F raw xs
theorem SlI.nil (ti tm : TypeId) (w : World) (F : Nat → Prop) : SlI ti tm w F (.slice none 0 0) [] := ⟨[], Fre.nil _ _ _ _, ItemsF.nil⟩
theorem SlI.keepM (h : SlI ti tm w F v xs) (e : Ext M w w') (hM : ∀ k, F k → ¬ M k) : SlI ti tm w' F v xs := by obtain ⟨raw, h1, h2⟩ := h; exact ⟨raw, h1.keepM e hM, h2.keepM e hM⟩
theorem SlI.keep (h : SlI ti tm w F v xs) (e : Le w w') : SlI ti tm w' F v xs := h.keepM e fun _ _ => not_false
theorem SlI.weak (h : SlI ti tm w F v xs) (hF : ∀ k, F k → F' k) : SlI ti tm w F' v xs := by obtain ⟨raw, h1, h2⟩ := h; exact ⟨raw, h1.weak hF, h2.weak hF⟩
theorem SlI.sl (h : SlI ti tm w F v xs) : Sl itemE w F v xs := by obtain ⟨raw, h1, h2⟩ := h; exact h2.items.sl h1.sl
end
/-- A cell is written: what lies in a slice of this type is others of its type. -/
theorem Fre.put {α : Type} {G : Flat α} {ty : TypeId} {w : World} {F : Nat → Prop} {v : Value} {xs : List α} (h : Fre G ty w F v xs) {g i off : Nat} {cur : Array Value} {u : Value} (hg : w.heap[g]? = some (.cells cur ty (0, 0))) (ho : off < G.sz) (hset : ∀ x, ∃ z, G.e z = (G.e x).set off u) :
    ∃ xs' : List α, Fre G ty (w.setCell ⟨g, i * G.sz + off, none⟩ u) F v xs' ∧ xs'.length = xs.length ∧ (∀ {β : Type} (p : α → β), (∀ x z, G.e z = (G.e x).set off u → p z = p x) → xs'.map p = xs.map p) ∧ ∀ Q : α → Prop, (∀ x ∈ xs, Q x) → (∀ x z, G.e z = (G.e x).set off u → Q z) → ∀ z ∈ xs', Q z := by
  have same : ∀ hh : Fre G ty (w.setCell ⟨g, i * G.sz + off, none⟩ u) F v xs, _ := fun hh => (⟨xs, hh, rfl, fun _ _ => rfl, fun _ h _ => h⟩ : ∃ xs' : List α, Fre G ty (w.setCell ⟨g, i * G.sz + off, none⟩ u) F v xs' ∧ xs'.length = xs.length ∧ (∀ {β : Type} (p : α → β), (∀ x z, G.e z = (G.e x).set off u → p z = p x) → xs'.map p = xs.map p) ∧ ∀ Q : α → Prop, (∀ x ∈ xs, Q x) → (∀ x z, G.e z = (G.e x).set off u → Q z) → ∀ z ∈ xs', Q z)
  rcases h.1.1.2 with ⟨rfl, h0⟩ | ⟨g', cap, cur', rfl, hb, hg', hn, hc, hsz, ht⟩
  · obtain rfl := List.eq_nil_of_length_eq_zero h0
    exact same (Fre.nil _ _ _ _)
  by_cases hgg : g' = g
  · subst hgg
    by_cases hi : i < xs.length
    · obtain ⟨z, hz⟩ := hset xs[i]
      refine ⟨xs.set i z, ⟨h.1.put1 hi ho hz, h.2⟩, by simp, fun p hp => ?_, fun Q h1 h2 y hy => ?_⟩
      rotate_left
      · rcases List.mem_or_eq_of_mem_set hy with q | rfl
        · exact h1 _ q
        · exact h2 _ _ hz
      rw [List.map_set, hp _ _ hz]
      apply List.ext_getElem (by simp)
      intro j h1 h2
      rw [List.getElem_set]
      split
      · rename_i hij
        subst hij
        simp
      · rfl
    · refine same ⟨⟨⟨h.1.1.1, .inr ⟨g', cap, (cur'.toList.set (i * G.sz + off) u).toArray, rfl, hb, heap_set w g' (i * G.sz + off) u (cs := cur'.toList) (ty := ty) (fr := (0, 0)) (by simpa using hg'), hn, hc, by simpa using hsz, ?_⟩⟩, h.1.2⟩, h.2⟩
      have h1 : xs.length * G.sz ≤ i * G.sz := Nat.mul_le_mul_right _ (by omega)
      rw [List.take_set_of_le (by omega)]
      exact ht
  · exact same (h.keepM (Ext.set w ⟨g, i * G.sz + off, none⟩ u) (M := fun k => k = g) (w' := w.setCell ⟨g, i * G.sz + off, none⟩ u) |> fun _ => ⟨⟨⟨h.1.1.1, .inr ⟨g', cap, cur', rfl, hb, ((Ext.set w ⟨g, i * G.sz + off, none⟩ u).block g' (lt_of_some hg') hgg).trans hg', hn, hc, hsz, ht⟩⟩, h.1.2⟩, h.2⟩)
/-- A cell of another type is written. -/
theorem Fre.off {α : Type} {G : Flat α} {ty ty' : TypeId} {w : World} {F : Nat → Prop} {v : Value} {xs : List α} (h : Fre G ty w F v xs) {g k : Nat} {cur : Array Value} {u : Value} (hg : w.heap[g]? = some (.cells cur ty' (0, 0))) (hne : ty ≠ ty') : Fre G ty (w.setCell ⟨g, k, none⟩ u) F v xs := by
  rcases h.1.1.2 with ⟨rfl, h0⟩ | ⟨g', cap, cur', rfl, hb, hg', hn, hc, hsz, ht⟩
  · obtain rfl := List.eq_nil_of_length_eq_zero h0
    exact Fre.nil _ _ _ _
  have hgg : g' ≠ g := by
    rintro rfl
    rw [hg] at hg'
    cases hg'
    exact hne rfl
  exact ⟨⟨⟨h.1.1.1, .inr ⟨g', cap, cur', rfl, hb, ((Ext.set w ⟨g, k, none⟩ u).block g' (lt_of_some hg') hgg).trans hg', hn, hc, hsz, ht⟩⟩, h.1.2⟩, h.2⟩
/-- What may be written of a cart: two lists of dots, items with their marks; what they hold is open, but for names' lengths. -/
structure Stn (td ti tm : TypeId) (w : World) (F : Nat → Prop) (a1 a2 a3 : Raw) (ps : List Raw) (K : Nat) : Prop where
  d1 : ∃ xs, Fre Dt.dotF td w F (slv a1) xs
  d2 : ∃ xs, Fre Dt.dotF td w F (slv a2) xs
  d3 : ∃ raw, Fre itemF ti w F (slv a3) raw ∧ raw.map (·.2) = ps ∧ ∀ r ∈ raw, r.1.length ≤ K
  m : ∀ p ∈ ps, ∃ ms, Fre markF tm w F (slv p) ms
section
variable {td ti tm : TypeId} {w w' : World} {F M : Nat → Prop} {a1 a2 a3 : Raw} {ps : List Raw} {K : Nat}
theorem Stn.keepM (h : Stn td ti tm w F a1 a2 a3 ps K) (e : Ext M w w') (hM : ∀ k, F k → ¬ M k) : Stn td ti tm w' F a1 a2 a3 ps K := by
  obtain ⟨⟨x1, h1⟩, ⟨x2, h2⟩, ⟨x3, h3, h4, h5⟩, h6⟩ := h
  refine ⟨⟨x1, h1.keepM e hM⟩, ⟨x2, h2.keepM e hM⟩, ⟨x3, h3.keepM e hM, h4, h5⟩, fun p hp => ?_⟩
  obtain ⟨ms, h7⟩ := h6 p hp
  exact ⟨ms, h7.keepM e hM⟩
theorem Stn.keep (h : Stn td ti tm w F a1 a2 a3 ps K) (e : Le w w') : Stn td ti tm w' F a1 a2 a3 ps K := h.keepM e fun _ _ => not_false
/-- What is read of a cart that may be written. -/
theorem Stn.of {v1 v2 v3 : Value} {xs ys : List Dt.Dot} {its : List ItemT} (h1 : Fre Dt.dotF td w F v1 xs) (h2 : Fre Dt.dotF td w F v2 ys) (h3 : SlI ti tm w F v3 its) (hn : ∀ x ∈ its, x.1.length ≤ K) : ∃ a1 a2 a3 ps, v1 = slv a1 ∧ v2 = slv a2 ∧ v3 = slv a3 ∧ Stn td ti tm w F a1 a2 a3 ps K := by
  obtain ⟨a1, rfl⟩ := h1.slv
  obtain ⟨a2, rfl⟩ := h2.slv
  obtain ⟨raw, h4, h5⟩ := h3
  obtain ⟨a3, rfl⟩ := h4.slv
  refine ⟨a1, a2, a3, raw.map (·.2), rfl, rfl, rfl, ⟨_, h1⟩, ⟨_, h2⟩, ⟨raw, h4, rfl, fun r hr => ?_⟩, fun p hp => ?_⟩
  · obtain ⟨i, hi, rfl⟩ := List.getElem_of_mem hr
    rw [(h5.2 i hi (by rw [← h5.1]; exact hi)).1]
    exact hn _ (List.getElem_mem _)
  · obtain ⟨r, hr, rfl⟩ := List.mem_map.1 hp
    obtain ⟨i, hi, rfl⟩ := List.getElem_of_mem hr
    exact ⟨_, (h5.2 i hi (by rw [← h5.1]; exact hi)).2⟩
end
section
variable {P : Program} {n : Nat} {ops rest : List Oper} {N : Val → World → Prop} {Z : List PanicEntry → World → Prop} {f : Val} {w : World}
  {x y : Operand} {t tr ty : TypeId} {pos : String} {after : Array Edge} {α : Type}
end
end Go.Pn
end
section
/-
  Functions with one deferred call: what lies behind the defer runs in a frame that holds it; then the deferred call, entered as the frame returns or panics. No condition.
-/
namespace Go.Pn
/-- The frame of n slots that holds deferred calls. -/
def FrD (ds : List Deferred) (n : Nat) (f : Val) : Act := { Fr n f with defers := ds }
/-- An activation that holds more deferred calls. -/
def more (ds : List Deferred) (a : Act) : Act := { a with defers := a.defers ++ ds }
theorem more_Fr (ds : List Deferred) (n : Nat) (f : Val) : more ds (Fr n f) = FrD ds n f := rfl
theorem more_put (ds : List Deferred) (a : Act) (o : Option Nat) (v : Value) : (more ds a).put o v = more ds (a.put o v) := by cases o <;> rfl
theorem more_eval (ds : List Deferred) (a : Act) : (more ds a).eval = a.eval := by funext x; cases x <;> rfl
/-- The slots that are not written behind the defer. -/
def Holds9 (ks : List Nat) (f0 : Val) (a : Act) : Prop := ∀ t ∈ ks, a.tmps.getD t undef = f0 t
/-- What each way out of a piece of code behind the defer must give. -/
def ExD (ds : List Deferred) (ks : List Nat) (f0 : Val) (n : Nat) (N : Val → World → Prop) (R : Val → World → Prop) (Z : List PanicEntry → World → Prop) : Exit → Act → World → Prop
  | .normal, a, w => ∃ f, a = FrD ds n f ∧ N f w
  | .ret, a, w => ∃ f, a = FrD ds n f ∧ R f w
  | .panic ch, a, w => a.defers = ds ∧ Holds9 ks f0 a ∧ Z ch w
  | _, _, _ => False
/-- Code behind the defer. -/
def CD (P : Program) (n : Nat) (ds : List Deferred) (ks : List Nat) (f0 : Val) (c : Code) (N : Val → World → Prop) (R : Val → World → Prop) (Z : List PanicEntry → World → Prop) (f : Val) (w : World) : Prop :=
  c.wp P (ExD ds ks f0 n N R Z) (FrD ds n f) w
section
variable {P : Program} {n : Nat} {ds : List Deferred} {ks : List Nat} {f0 : Val} {N N' : Val → World → Prop} {R : Val → World → Prop} {Z : List PanicEntry → World → Prop} {f : Val} {w : World} {a b c : Code}
theorem CD.seqK (h : ∀ K : Val → World → Prop, (∀ f w, CD P n ds ks f0 b N R Z f w → K f w) → CD P n ds ks f0 a K R Z f w) : CD P n ds ks f0 (.seq a b) N R Z f w := by
  have h := h _ (fun _ _ h => h)
  refine wp_seq (wp_mono h ?_)
  intro e a w he
  cases e with
  | normal => obtain ⟨f, rfl, hb⟩ := he; exact hb
  | exit i => exact he
  | goto l => exact he
  | ret => exact he
  | panic ch => exact he
  | outgrown => exact he
theorem CD.skip (h : N f w) : CD P n ds ks f0 .skip N R Z f w := wp_skip ⟨f, rfl, h⟩
theorem CD.ret (h : R f w) : CD P n ds ks f0 .ret N R Z f w := wp_ret ⟨f, rfl, h⟩
/-- These operations write none of the slots. -/
def keepsB (ks : List Nat) (l : List Oper) : Bool := l.all fun o => match o.dst with
  | some d => !ks.contains d
  | none => true
theorem Holds9.put {a : Act} (h : Holds9 ks f0 a) {o : Option Nat} {v : Value} (ho : ∀ d, o = some d → d ∉ ks) : Holds9 ks f0 (a.put o v) := by
  intro t ht
  cases o with
  | none => exact h t ht
  | some d =>
    have hd : d ≠ t := fun q => ho d rfl (q ▸ ht)
    rw [← h t ht]
    simp only [Act.put, Array.getD_eq_getD_getElem?, Array.getElem?_setIfInBounds]
    rw [if_neg hd]
theorem keeps_cons {o : Oper} {l : List Oper} (h : keepsB ks (o :: l) = true) : (∀ d, o.dst = some d → d ∉ ks) ∧ keepsB ks l = true := by
  unfold keepsB at h ⊢
  simp only [List.all_cons, Bool.and_eq_true] at h
  refine ⟨fun d hd => ?_, h.2⟩
  have h1 := h.1
  rw [hd] at h1
  simpa using h1
theorem list_more {ops : Array Oper} : ∀ (l : List Oper) (a : Act) (w : World), keepsB ks l = true → Holds9 ks f0 a → (a.defers = []) → wpList P ops (Ex n N (fun _ _ _ => False) (fun _ _ => False) Z) l a w →
    wpList P ops (ExD ds ks f0 n N R Z) l (more ds a) w := by
  have key : ∀ (l : List Oper) (a : Act) (w : World), keepsB ks l = true → Holds9 ks f0 a → wpList P ops (Ex n N (fun _ _ _ => False) (fun _ _ => False) Z) l a w →
      wpList P ops (ExD ds ks f0 n N R Z) l (more ds a) w := by
    intro l
    induction l with
    | nil =>
      intro a w _ _ h
      obtain ⟨f, rfl, hN⟩ := h
      exact ⟨f, rfl, hN⟩
    | cons o l ih =>
      intro a w hk hh h
      obtain ⟨hk1, hk2⟩ := keeps_cons hk
      simp only [wpList] at h ⊢
      rw [more_put]
      have ht : (more ds a).tmps = a.tmps := rfl
      rw [ht]
      split at h
      · rename_i hw
        rw [if_pos hw]
        rcases h with h | ⟨_, a0, w0, h0⟩
        · left
          simp only [Oper.wp, more_eval] at h ⊢
          generalize (execOp a.eval o).run P w = r at h ⊢
          cases r with
          | ok nx w' =>
            cases nx with
            | value v => have := ih _ _ hk2 (hh.put hk1) h; rw [← more_put] at this; exact this
            | skip => have := ih _ _ hk2 (hh.put hk1) h; rw [← more_put] at this; exact this
            | defer d =>
              have := ih _ _ hk2 (Holds9.put (a := { a with defers := d :: a.defers }) hh hk1) h
              rw [← more_put] at this
              exact this
            | enter k args =>
              refine Calls.mono h ?_
              intro e w'' he
              cases e with
              | returned v => have := ih _ _ hk2 (hh.put hk1) he; rw [← more_put] at this; exact this
              | panicked ch => exact ⟨by show a.defers ++ ds = ds; rw [he.1]; rfl, hh, he.2⟩
              | outgrown => obtain ⟨a0, w0, h0⟩ := he; exact h0.elim
            | row r args => exact Rows.mono h fun v w'' hv => by have := ih _ _ hk2 (hh.put hk1) hv; rw [← more_put] at this; exact this
            | _ => exact h.elim
          | halt q w' =>
            cases q with
            | panic v => exact ⟨by show a.defers ++ ds = ds; rw [h.1]; rfl, hh, h.2⟩
            | _ => exact h.elim
        · exact h0.elim
      · rename_i hw
        rw [if_neg hw]
        exact ih _ _ hk2 (hh.put hk1) h
  exact fun l a w hk hh _ h => key l a w hk hh h
theorem CD.region {id : Nat} {l : List Oper} (hk : keepsB ks l = true) (hf : ks.map (fun t => ev n f (.tmp t)) = ks.map f0) (h : O P n l l N Z f w) : CD P n ds ks f0 (.region id l.toArray false) N R Z f w := by
  refine wp_region_lit ?_
  rw [← more_Fr]
  exact list_more l _ _ hk (fun t ht => (getD_Fr n f t).trans (List.map_inj_left.1 hf t ht)) rfl h
theorem any_more {ops : Array Oper} {S : World → Prop} : ∀ (fuel : Nat) (listed : Array Bool) (a : Act) (w : World), wpAnyH P .any ops (Q0 n N fun _ _ => False) S fuel listed a w →
    wpAnyH P .any ops (ExD ds ks f0 n N R Z) S fuel listed (more ds a) w
  | 0, _, a, w, h => by
    obtain ⟨h0, f, rfl, hN⟩ := h
    exact ⟨h0, f, rfl, hN⟩
  | fuel + 1, listed, a, w, h => by
    refine ⟨fun h0 => ?_, fun i hi => ?_⟩
    · obtain ⟨f, rfl, hN⟩ := h.1 h0
      exact ⟨f, rfl, hN⟩
    · have h2 := h.2 i hi
      unfold wpOp at h2 ⊢
      generalize ops[i]? = q at h2 ⊢
      cases q with
      | none => exact ⟨h2.1, any_more fuel _ a w h2.2⟩
      | some o =>
        simp only at h2 ⊢
        have ht : (more ds a).tmps = a.tmps := rfl
        rw [ht]
        split at h2
        · rename_i hw
          rw [if_pos hw]
          rcases h2 with h2 | ⟨_, a0, w0, h0⟩
          · left
            simp only [Oper.wp, more_eval] at h2 ⊢
            generalize (execOp a.eval o).run P w = r at h2 ⊢
            cases r with
            | ok nx w' =>
              cases nx with
              | value v => refine ⟨h2.1, ?_⟩; rw [more_put]; exact any_more fuel _ _ w' h2.2
              | skip => refine ⟨h2.1, ?_⟩; rw [more_put]; exact any_more fuel _ _ w' h2.2
              | defer d => refine ⟨h2.1, ?_⟩; have := any_more fuel _ ({ a with defers := d :: a.defers }.put o.dst undef) w' h2.2; rw [← more_put] at this; exact this
              | enter k args =>
                refine Calls.mono h2 ?_
                intro e w'' he
                cases e with
                | returned v => refine ⟨he.1, ?_⟩; rw [more_put]; exact any_more fuel _ _ w'' he.2
                | panicked ch => exact he.2.elim
                | outgrown => obtain ⟨a0, w0, h0⟩ := he; exact h0.elim
              | row r args => exact Rows.mono h2 fun v w'' hv => by refine ⟨hv.1, ?_⟩; rw [more_put]; exact any_more fuel _ _ w'' hv.2
              | _ => exact h2.elim
            | halt q w' =>
              cases q with
              | panic v => exact h2.2.elim
              | _ => exact h2.elim
          · exact h0.elim
        · rename_i hw
          rw [if_neg hw]
          refine ⟨h2.1, ?_⟩
          rw [more_put]
          exact any_more fuel _ _ w h2.2
theorem CD.draw {id : Nat} {l : List Oper} (hm : P.follows .mixedOrders = true) (h : ∀ w1, Le w w1 → D P n l (Array.replicate l.toArray.size false) N (fun _ _ => False) w1 l.toArray.size f w1) : CD P n ds ks f0 (.region id l.toArray true) N R Z f w := by
  have h1 := h { w with drawn := w.drawn + 1 } ⟨rfl, rfl, rfl, Nat.le_refl _, fun _ _ _ => rfl⟩
  unfold CD
  rw [← more_Fr]
  exact wp_region_held (S := fun w' => Le { w with drawn := w.drawn + 1 } w') hm (any_more _ _ _ _ h1)
theorem CD.drawB {wB : World} {id : Nat} {l : List Oper} (hm : P.follows .mixedOrders = true) (h : ∀ w1, Le w w1 → D P n l (Array.replicate l.toArray.size false) N (fun _ _ => False) wB l.toArray.size f w1) : CD P n ds ks f0 (.region id l.toArray true) N R Z f w := by
  have h1 := h { w with drawn := w.drawn + 1 } ⟨rfl, rfl, rfl, Nat.le_refl _, fun _ _ _ => rfl⟩
  unfold CD
  rw [← more_Fr]
  exact wp_region_held (S := fun w' => Le wB w') hm (any_more _ _ _ _ h1)
end
section
variable {P : Program} {n : Nat}
/-- A region that is one defer. -/
theorem wp_defer {g : Nat} {x : Operand} {v : Value} {id : Nat} {dst : Option Nat} {ats : Array TypeId} {ty : TypeId} {pos : String} {after : Array Edge} {f : Val} {w : World} {Q : Exit → Act → World → Prop}
    (hd : dst = none) (hx : ev n f x = v) (h : Q .normal (FrD [{ target := .fn (.func g) #[], args := #[v] }] n f) w) :
    (Code.region id [{ dst := dst, op := Op.defer { callee := .value (.func g), args := [x].toArray, argTypes := ats }, type := ty, pos := pos, after := after, guard := .none }].toArray false).wp P Q (Fr n f) w := by
  subst hd
  subst hx
  refine wp_region_lit ?_
  simp only [wpList, Region.wanted, if_true]
  left
  have hrun : (execOp (ev n f) { dst := none, op := Op.defer { callee := .value (.func g), args := [x].toArray, argTypes := ats }, type := ty, pos := pos, after := after, guard := .none }).run P w = .ok (.defer { target := .fn (.func g) #[], args := #[ev n f x] }) w := by
    simp [execOp, resolve, Deferred.ofValue, ev]
  simp only [Oper.wp, eval_Fr, hrun, Oper.upon_defer]
  exact h
/-- A function whose second part defers one call. -/
theorem enterD {k g : Nat} {fn : Func} {r0 rest : Code} {x : Operand} {id : Nat} {dst : Option Nat} {ats : Array TypeId} {ty : TypeId} {pos : String} {after : Array Edge} {args : List Value} {w : World} {Post : Value → World → Prop}
    {ks : List Nat}
    (hf : P.funcs[k]? = some fn)
    (hb : fn.body = some (.seq r0 (.seq (.region id [{ dst := dst, op := Op.defer { callee := .value (.func g), args := [x].toArray, argTypes := ats }, type := ty, pos := pos, after := after, guard := .none }].toArray false) rest)))
    (hn : fn.ntmps = n) (ha : args.length ≤ n) (hd : dst = none)
    (h : C P n r0 (fun f1 w1 => ∃ (v : Value) (Z : List PanicEntry → World → Prop), ev n f1 x = v ∧ CD P n [{ target := .fn (.func g) #[], args := #[v] }] ks (fun t => ev n f1 (.tmp t)) rest (fun _ _ => False)
        (fun f2 w2 => Leaves P fn (Fr n f2).tmps (fun e w' => match e with | .returned v => Post v w' | _ => False) [{ target := .fn (.func g) #[], args := #[v] }] .returning w2)
        Z f1 w1 ∧ ∀ a ch w', Holds9 ks (fun t => ev n f1 (.tmp t)) a → Z ch w' → Leaves P fn a.tmps (fun e w' => match e with | .returned v => Post v w' | _ => False) [{ target := .fn (.func g) #[], args := #[v] }] (.panicking ch) w')
      (fun _ _ _ => False) (fun _ _ => False) (fun _ _ => False) (init args) w) : Ret P k args.toArray w Post := by
  subst hn
  refine calls_of_wp_defers hf hb ?_
  rw [Fr_init _ _ ha]
  refine wp_seq (wp_mono h ?_)
  intro e a w he
  cases e with
  | normal =>
    obtain ⟨f1, rfl, v, Z, hx, hc, hz⟩ := he
    refine wp_seq (wp_defer hd hx (wp_mono hc ?_))
    intro e a w he
    cases e with
    | normal => obtain ⟨_, _, h⟩ := he; exact h.elim
    | ret => obtain ⟨f2, rfl, h⟩ := he; exact h
    | panic ch => obtain ⟨hd, hh, hzz⟩ := he; show Leaves _ _ _ _ a.defers _ _; rw [hd]; exact hz a ch w hh hzz
    | exit i => exact he.elim
    | goto l => exact he.elim
    | outgrown => exact he.elim
  | exit i => obtain ⟨_, _, h⟩ := he; exact h.elim
  | goto l => exact he.elim
  | ret => obtain ⟨_, _, h⟩ := he; exact h.elim
  | panic ch => exact he.2.elim
  | outgrown => exact he.elim
/-- Leaving: the deferred call returns. -/
theorem leaves1 {fn : Func} {tmps : Array Value} {g : Nat} {v : Value} {u : FrameMode} {w : World} {Post : Value → World → Prop} {S : World → Prop} (hu : u ≠ .run)
    (hk : ∀ args w, (callFunc g args).run P w = .ok (.enter g args) w)
    (hc : CallsD P g #[v] u w fun e u' w' => (∃ q, e = .returned q) ∧ settle u' = .returning ∧ S w')
    (h : ∀ w', S w' → ∃ r, (results fn tmps).run P w' = .ok r w' ∧ Post r w') :
    Leaves P fn tmps (fun e w' => match e with | .returned v => Post v w' | _ => False) [{ target := .fn (.func g) #[], args := #[v] }] u w := by
  refine leaves_cons hu (f := g) (args := #[v]) (by simp [invoke, hk]) ?_
  refine hc.mono ?_
  rintro e u' w' ⟨⟨q, rfl⟩, hs, hS⟩
  simp only [hs]
  exact h w' hS
end
end Go.Pn
namespace Go.Pn
section
variable {P : Program} {fn : Func} {tmps : Array Value} {w : World} {t u q s b b2 : Nat} {ty ty' ty2 ty2' : TypeId} {cs : List Value} {x y : Value}
theorem load_agg (hag : ∀ w, (isAgg ty).run P w = .ok true w) (hs : ∀ w, (sizeOf ty).run P w = .ok s w) (ho : Own w b ty' cs) (hl : cs.length = s) : (loadVar ty ⟨b, 0, Option.none⟩).run P w = .ok (.agg cs.toArray) w := by
  have hc : (loadCells ⟨b, 0, Option.none⟩ s).run P w = .ok cs.toArray w := by
    have := run_loadCells_list (P := P) w ⟨b, 0, Option.none⟩ cs fun j v hj => by rw [Addr.add_none, Nat.zero_add]; exact ho.cell hj
    rwa [hl] at this
  simp [loadVar, hag, hs, hc]
theorem load_one (hag : ∀ w, (isAgg ty).run P w = .ok false w) (ho : Own w b ty' [x]) : (loadVar ty ⟨b, 0, Option.none⟩).run P w = .ok x w := by
  have hc : w.cell? ⟨b, 0, Option.none⟩ = some x := ho.cell rfl
  simp [loadVar, hag, hc]
/-- Results: a struct in a cell, a slot, a cell. -/
theorem res_ctc (hr : fn.results = #[.cell t ty, .tmp u, .cell q ty2]) (h1 : tmps.getD t undef = .pointer (some ⟨b, 0, Option.none⟩)) (h2 : tmps.getD u undef = y) (h3 : tmps.getD q undef = .pointer (some ⟨b2, 0, Option.none⟩))
    (hag : ∀ w, (isAgg ty).run P w = .ok true w) (hs : ∀ w, (sizeOf ty).run P w = .ok s w) (ho : Own w b ty' cs) (hl : cs.length = s) (hag2 : ∀ w, (isAgg ty2).run P w = .ok false w) (ho2 : Own w b2 ty2' [x]) :
    (results fn tmps).run P w = .ok (.tuple #[.agg cs.toArray, y, x]) w := by
  simp [results, hr, -Array.getD_eq_getD_getElem?, h1, h2, h3, asAddr, load_agg hag hs ho hl, load_one hag2 ho2]
/-- Results: a struct in a cell, a cell. -/
theorem res_cc (hr : fn.results = #[.cell t ty, .cell q ty2]) (h1 : tmps.getD t undef = .pointer (some ⟨b, 0, Option.none⟩)) (h3 : tmps.getD q undef = .pointer (some ⟨b2, 0, Option.none⟩))
    (hag : ∀ w, (isAgg ty).run P w = .ok true w) (hs : ∀ w, (sizeOf ty).run P w = .ok s w) (ho : Own w b ty' cs) (hl : cs.length = s) (hag2 : ∀ w, (isAgg ty2).run P w = .ok false w) (ho2 : Own w b2 ty2' [x]) :
    (results fn tmps).run P w = .ok (.tuple #[.agg cs.toArray, x]) w := by
  simp [results, hr, -Array.getD_eq_getD_getElem?, h1, h3, asAddr, load_agg hag hs ho hl, load_one hag2 ho2]
end
end Go.Pn
end
section
/-
  Deferred calls that recover; interfaces held against nil, and asserted. No condition.
-/
namespace Go.Pn
section
variable {P : Program} {n : Nat} {ops rest : List Oper} {N : Val → World → Prop} {Z : List PanicEntry → World → Prop} {f : Val} {w : World}
  {d : Nat} {x y : Operand} {t t' ty : TypeId} {pos : String} {after : Array Edge}
theorem O.eqlN0 (hx : ev n f x = .nilIface) {ms : Array (String × TypeId)} (ht : P.underlying t = some (.interface ms)) (h : O P n ops rest N Z (upd f d (.bool true)) w) :
    O P n ops ({ dst := some d, op := .binOp .eql t x (.const .nilIface) t', type := ty, pos := pos, after := after, guard := .none } :: rest) N Z f w :=
  O.val rfl rfl (by
    refine run_bin hx (y := .const .nilIface) rfl ?_ ?_ _ _
    · simp only [eqGuard, Bool.or_true]
      rfl
    · have h2 : binOp .eql t .nilIface .nilIface = (do pure (.bool ((← Op.equal t .nilIface .nilIface)))) := rfl
      have h1 : (Op.equal t .nilIface .nilIface).run P w = .ok true w := by
        unfold Op.equal Op.maxDepth
        rw [Op.equalIn, Sem.run_bind, run_underlying ht]
        rfl
      show Sem.run P (binOp .eql t .nilIface .nilIface) w = _
      rw [h2, Sem.run_bind, h1]
      rfl) h
theorem O.eqlN1 {te : TypeId} {v : Value} (hx : ev n f x = .iface te v) (hy : ev n f y = .nilIface) {ms : Array (String × TypeId)} (ht : P.underlying t = some (.interface ms)) (h : O P n ops rest N Z (upd f d (.bool false)) w) :
    O P n ops ({ dst := some d, op := .binOp .eql t x y t', type := ty, pos := pos, after := after, guard := .none } :: rest) N Z f w :=
  O.val rfl rfl (by
    refine run_bin hx hy ?_ ?_ _ _
    · simp only [eqGuard]
      rw [if_neg (by decide)]
      rfl
    · have h2 : binOp .eql t (.iface te v) .nilIface = (do pure (.bool ((← Op.equal t (.iface te v) .nilIface)))) := by cases v <;> rfl
      have h1 : (Op.equal t (.iface te v) .nilIface).run P w = .ok false w := by
        unfold Op.equal Op.maxDepth
        rw [Op.equalIn, Sem.run_bind, run_underlying ht]
        rfl
      rw [h2, Sem.run_bind, h1]
      rfl) h
/-- An assertion that holds. -/
theorem O.holds {xt te : TypeId} {v : Value} {de : TypeDesc} (ht : P.underlying te = some de) (hd : isIf de = false) (hx : ev n f x = .iface te v) (h : O P n ops rest N Z (upd f d (.tuple #[v, .bool true])) w) :
    O P n ops ({ dst := some d, op := .typeAssert x xt te true, type := ty, pos := pos, after := after, guard := .none } :: rest) N Z f w :=
  O.val rfl rfl (by
    have h3 : execOp (ev n f) { dst := some d, op := .typeAssert x xt te true, type := ty, pos := pos, after := after, guard := .none } = (do pure (.value (← Instr.typeAssert (ev n f x) xt te true))) := rfl
    rw [h3, Sem.run_bind, hx]
    have h4 : (Instr.typeAssert (.iface te v) xt te true).run P w = .ok (.tuple #[v, .bool true]) w := by
      unfold Instr.typeAssert
      rw [Sem.run_bind, run_underlying ht]
      cases de <;> first | (simp [isIf] at hd; done) | simp
    rw [h4]
    rfl) h
/-- What is left to show behind a recover. -/
def goalS (P : Program) (fn : Func) (c₀ : Frame) (cs : List Frame) (S : World → Prop) (u' : FrameMode) (rest : Code) (a : Act) (cs' : List Frame) (w : World) : Prop :=
  rest.wpS P (bodyPostS P fn c₀ cs fun e u2 w' => (∃ q, e = .returned q) ∧ u2 = u' ∧ S w') a cs' w
/-- A function that recovers first, entered as a deferred call. -/
theorem callsD_recover {g : Nat} {fn : Func} {rest : Code} {args : List Value} {u u' : FrameMode} {w : World} {S : World → Prop} {rv : Value} {id : Nat} {d : Nat} {ats : Array TypeId} {ty : TypeId} {pos : String} {after : Array Edge}
    (hf : P.funcs[g]? = some fn) (hb : fn.body = some (.seq (.region id [{ dst := some d, op := .call { callee := .builtin .recover, args := ([] : List Operand).toArray, argTypes := ats }, type := ty, pos := pos, after := after, guard := .none }].toArray false) rest))
    (hn : fn.ntmps = n) (ha : args.length ≤ n) (hr : fn.results = #[])
    (hrec : ∀ (c₀ : Frame) (cs : List Frame), c₀.mode = u → match recoverD (c₀ :: cs) with | some (v, cs') => v = rv ∧ cs' = { c₀ with mode := u' } :: cs | none => rv = .nilIface ∧ u' = u)
    (h : C P n rest (fun _ w' => S w') (fun _ _ _ => False) (fun _ w' => S w') (fun _ _ => False) (upd (init args) d rv) w) :
    CallsD P g args.toArray u w fun e u2 w' => (∃ q, e = .returned q) ∧ u2 = u' ∧ S w' := by
  subst hn
  refine callsD_of_wpS hf hb fun c₀ cs hu => ?_
  have hc : ({ c₀ with mode := u } : Frame) = c₀ := by subst hu; rfl
  rw [Fr_init _ _ ha]
  refine wpS_seq (wpS_region ?_)
  have hrun : (execOp (Fr fn.ntmps (init args)).eval { dst := some d, op := .call { callee := .builtin .recover, args := ([] : List Operand).toArray, argTypes := ats }, type := ty, pos := pos, after := after, guard := .none }).run P w = .ok .recover w := by
    simp [execOp, resolve, invoke, builtin]
  have hz : (Array.size [({ dst := some d, op := .call { callee := .builtin .recover, args := ([] : List Operand).toArray, argTypes := ats }, type := ty, pos := pos, after := after, guard := .none } : Oper)].toArray) = 1 := rfl
  have hlast : ∀ cs' : List Frame, cs' = { c₀ with mode := u' } :: cs → goalS P fn c₀ cs S u' rest (Fr fn.ntmps (upd (init args) d rv)) cs' w := by
    intro cs' hcs
    subst hcs
    refine wpS_of_wp (wp_mono h ?_)
    intro e a w he
    cases e with
    | normal => obtain ⟨f, rfl, hs⟩ := he; exact ⟨rfl, u', rfl, .tuple #[], by rw [results_none hr], ⟨_, rfl⟩, rfl, hs⟩
    | ret => obtain ⟨f, rfl, hs⟩ := he; exact ⟨rfl, u', rfl, .tuple #[], by rw [results_none hr], ⟨_, rfl⟩, rfl, hs⟩
    | exit i => obtain ⟨_, _, h⟩ := he; exact h.elim
    | goto l => exact he.elim
    | panic ch => exact he.2.elim
    | outgrown => exact he.elim
  have hrec := hrec c₀ cs hu
  have hp := put_Fr fn.ntmps (init args) d rv
  rw [hz]
  simp only [List.range_one, wpOpsS, List.getElem?_toArray, List.getElem?_cons_zero, Region.wanted, if_true, hrun]
  generalize recoverD (c₀ :: cs) = q at hrec ⊢
  cases q with
  | none =>
    obtain ⟨h1, h2⟩ := hrec
    subst h2
    show goalS _ _ _ _ _ _ _ ((Fr fn.ntmps (init args)).put (some d) .nilIface) _ _
    rw [← h1, hp]
    exact hlast _ (by rw [hc])
  | some q =>
    obtain ⟨v, cs'⟩ := q
    obtain ⟨h1, h2⟩ := hrec
    show goalS _ _ _ _ _ _ _ ((Fr fn.ntmps (init args)).put (some d) v) _ _
    rw [h1, hp]
    exact hlast _ h2
end
/-- A struct in a cell and two slots. -/
theorem Outs.cellA3 {P : Program} {fn : Func} {n : Nat} {Post : Value → World → Prop} {f : Val} {w : World} {t u u2 s b : Nat} {ty ty' : TypeId} {cs : List Value} {v' v2 : Value} (hr : fn.results = #[.cell t ty, .tmp u, .tmp u2]) (hag : ∀ w, (isAgg ty).run P w = .ok true w) (hs : ∀ w, (sizeOf ty).run P w = .ok s w)
    (hv : ev n f (.tmp t) = .pointer (some ⟨b, 0, Option.none⟩)) (hv' : ev n f (.tmp u) = v') (hv2 : ev n f (.tmp u2) = v2) (ho : Own w b ty' cs) (hl : cs.length = s) (h : Post (.tuple #[.agg cs.toArray, v', v2]) w) : Outs P fn n Post f w := by
  refine ⟨_, ?_, h⟩
  simp [results, hr, -Array.getD_eq_getD_getElem?, (getD_Fr n f t).trans hv, (getD_Fr n f u).trans hv', (getD_Fr n f u2).trans hv2, asAddr, load_agg hag hs ho hl]
end Go.Pn
end
section
/-
  PLAIN LAWS OF READING: a reader that goes on when something was wrong. Of no program.
-/
namespace Go.Pn.Cn
open Go Go.Pn
/-- What a part's reading gives: it stands there, or something is wrong; where it was not before, nothing stands there. -/
def Rd {α : Type} (Q : α → Prop) (f : α → List UInt8) (l : List UInt8) (k : Nat) (bad : Bool) (x : α) (k' : Nat) (bad' : Bool) : Prop :=
  k' ≤ l.length ∧ ((bad' = false ∧ bad = false ∧ Seg (f x) l k k') ∨ (bad' = true ∧ (bad = false → No Q f l k)))
abbrev RdN (l : List UInt8) (k : Nat) (bad : Bool) (n : BitVec 64) (k' : Nat) (bad' : Bool) : Prop := Rd (fun _ : BitVec 64 => True) (fun q => num q.toNat) l k bad n k' bad'
section
variable {l x : List UInt8} {k k1 k2 k3 i : Nat} {bad b1 b2 b3 : Bool} {n m q : BitVec 64} {d : Dot}
theorem drop_get {k i : Nat} (h : k + i < l.length) (h' : i < (l.drop k).length) : (l.drop k)[i] = l[k + i] := by simp
theorem num_yes (hk : k + (i + 1) ≤ l.length) (h : num q.toNat = (l.drop k).take (i + 1)) : SegN q l k (k + (i + 1)) := by
  have hl : (num q.toNat).length = i + 1 := by rw [h, List.length_take, List.length_drop]; omega
  have := Seg.take (l := l) (k := k) (s := num q.toNat) (by rw [hl]; exact h) (by rw [hl]; exact hk)
  rwa [hl] at this
theorem num_no1 (hall : ∀ j, ∀ h : j < (l.drop k).length, j < i → ¬ (l.drop k)[j].toNat < 128) (hi : i = 10 ∨ (l.drop k).length ≤ i) : NumA l k := by
  intro q r _ e
  obtain ⟨e0, h1, he, h9, _, _, _, h2, _⟩ := num_stands q.isLt e
  exact hall e0 he (by omega) h2
theorem num_no2 (hall : ∀ j, ∀ h : j < (l.drop k).length, j < i → ¬ (l.drop k)[j].toNat < 128) (hi : i < (l.drop k).length) (h : (l.drop k)[i].toNat < 128)
    (hne : num (BitVec.ofNat 64 (valN ((l.drop k).take (i + 1)))).toNat ≠ (l.drop k).take (i + 1)) : NumA l k := by
  intro q r _ e
  obtain ⟨e0, h1, he, h9, h3, _, _, h2, h4⟩ := num_stands q.isLt e
  have h5 : e0 = i := by
    rcases Nat.lt_trichotomy e0 i with h6 | h6 | h6
    · exact absurd h2 (hall e0 he h6)
    · exact h6
    · exact absurd h (h4 i hi h6)
  subst h5
  apply hne
  rw [← h3, valN_num, BitVec.ofNat_toNat, BitVec.setWidth_eq]
theorem RdN.of_bad (hk : k ≤ l.length) (h : bad = true) : RdN l k bad n k true := ⟨hk, .inr ⟨rfl, fun h2 => by rw [h] at h2; cases h2⟩⟩
theorem Rd.dot (h1 : RdN l k bad n k1 b1) (h2 : RdN l k1 b1 m k2 b2) : Rd dotR dotB l k bad (n.toInt, m.toInt) k2 b2 := by
  refine ⟨h2.1, ?_⟩
  rcases h2.2 with ⟨q1, q2, q3⟩ | ⟨q1, q2⟩
  · rcases h1.2 with ⟨p1, p2, p3⟩ | ⟨p1, _⟩
    · exact .inl ⟨q1, p2, seg_dot p3 q3⟩
    · rw [q2] at p1; cases p1
  · refine .inr ⟨q1, fun hb => ?_⟩
    rcases h1.2 with ⟨p1, p2, p3⟩ | ⟨p1, p2⟩
    · exact no_dotR2 p3 (q2 p1)
    · exact no_dotR1 (p2 hb)
theorem Rd.str {n : BitVec 64} (h1 : RdN l k bad n k1 false) (h : n.toNat ≤ l.length - k1) : Rd (fun _ : List UInt8 => True) strB l k bad ((l.drop k1).take n.toNat) (k1 + n.toNat) false := by
  have hk := h1.1
  refine ⟨by omega, .inl ⟨rfl, ?_⟩⟩
  rcases h1.2 with ⟨_, p2, p3⟩ | ⟨p1, _⟩
  · exact ⟨p2, seg_str p3 h⟩
  · cases p1
theorem Rd.nostr {n : BitVec 64} (hl : l.length ≤ 1000000) (h1 : RdN l k bad n k1 b1) (h : b1 = true ∨ l.length - k1 < n.toNat) {s : List UInt8} : Rd (fun _ : List UInt8 => True) strB l k bad s k1 true := by
  refine ⟨h1.1, .inr ⟨rfl, fun hb => ?_⟩⟩
  intro s r _ e
  rcases h1.2 with ⟨p1, p2, p3⟩ | ⟨p1, p2⟩
  · rcases h with h | h
    · rw [p1] at h; cases h
    · exact no_str (m := s.length) p3 (.inr h) s r (Int.le_refl _) e
  · exact no_str_len (m := s.length) (p2 hb) (by omega) s r (Int.le_refl _) e
/-- The state of a list's reading. -/
def Rds {α : Type} (Q : α → Prop) (f : α → List UInt8) (l : List UInt8) (k : Nat) (bad : Bool) (n : BitVec 64) (k1 : Nat) (xs : List α) (k' : Nat) (bad' : Bool) : Prop :=
  k' ≤ l.length ∧ manyQ Q xs ∧ ((bad' = false ∧ bad = false ∧ SegN n l k k1 ∧ xs.length ≤ n.toNat ∧ Seg (xs.flatMap f) l k1 k') ∨ (bad' = true ∧ (bad = false → No (manyQ Q) (manyB f) l k)))
section
variable {α : Type} {Q : α → Prop} {f : α → List UInt8} {xs : List α} {y : α}
theorem Rds.start (hl : l.length ≤ 1000000) (hf : ∀ x, 1 ≤ (f x).length) (h : RdN l k bad n k1 b1) : Rds Q f l k bad n k1 [] k1 b1 := by
  refine ⟨h.1, manyQ_nil, ?_⟩
  rcases h.2 with ⟨p1, p2, p3⟩ | ⟨p1, p2⟩
  · exact .inl ⟨p1, p2, p3, Nat.zero_le _, Seg.nil p3.2.2⟩
  · exact .inr ⟨p1, fun hb => no_many1 (p2 hb) hf (by omega)⟩
theorem Rds.next (hp : Pre Q f) (h : Rds Q f l k bad n k1 xs k2 false) (hj : xs.length < n.toNat) (hy : Q y) (h2 : Rd Q f l k2 false y k3 b3) : Rds Q f l k bad n k1 (xs ++ [y]) k3 b3 := by
  refine ⟨h2.1, manyQ_snoc h.2.1 hy, ?_⟩
  rcases h.2.2 with ⟨_, p2, p3, p4, p5⟩ | ⟨p1, _⟩
  · rcases h2.2 with ⟨q1, _, q3⟩ | ⟨q1, q2⟩
    · exact .inl ⟨q1, p2, p3, by rw [List.length_append]; exact hj, Seg.snoc p5 q3⟩
    · exact .inr ⟨q1, fun _ => no_many2 p3 hp h.2.1 p5 hj (q2 rfl)⟩
  · cases p1
theorem Rds.done (h : Rds Q f l k bad n k1 xs k2 b2) (hj : ¬ xs.length < n.toNat ∨ b2 = true) : Rd (manyQ Q) (manyB f) l k bad xs k2 b2 := by
  refine ⟨h.1, ?_⟩
  rcases h.2.2 with ⟨p1, p2, p3, p4, p5⟩ | ⟨p1, p2⟩
  · refine .inl ⟨p1, p2, seg_many p3 p5 ?_⟩
    rcases hj with hj | hj
    · omega
    · rw [p1] at hj; cases hj
  · exact .inr ⟨p1, p2⟩
theorem Rds.len (hf : ∀ x, 1 ≤ (f x).length) (h : Rds Q f l k bad n k1 xs k2 false) : xs.length ≤ l.length ∧ xs.length ≤ n.toNat := by
  rcases h.2.2 with ⟨_, _, _, p4, p5⟩ | ⟨p1, _⟩
  · have := seg_len hf p5
    exact ⟨by omega, p4⟩
  · cases p1
end
theorem Rd.ctx {v c : List Dot} (h1 : Rd (manyQ dotR) (manyB dotB) l k bad v k1 b1) (hv : manyQ dotR v) (h2 : Rd (manyQ dotR) (manyB dotB) l k1 b1 c k2 b2) : Rd ctxR ctxB l k bad (v, c) k2 b2 := by
  refine ⟨h2.1, ?_⟩
  rcases h2.2 with ⟨q1, q2, q3⟩ | ⟨q1, q2⟩
  · rcases h1.2 with ⟨p1, p2, p3⟩ | ⟨p1, _⟩
    · exact .inl ⟨q1, p2, seg_ctx p3 q3⟩
    · rw [q2] at p1; cases p1
  · refine .inr ⟨q1, fun hb => ?_⟩
    rcases h1.2 with ⟨p1, p2, p3⟩ | ⟨p1, p2⟩
    · exact no_ctxR2 p3 hv (q2 p1)
    · exact no_ctxR1 (p2 hb)
theorem Rd.mark {t : BitVec 64} (h1 : Rd dotR dotB l k bad d k1 b1) (hd : dotR d) (h2 : RdN l k1 b1 q k2 b2) (h3 : RdN l k2 b2 t k3 b3) : Rd markR markB l k bad (d, q.toInt, t) k3 b3 := by
  refine ⟨h3.1, ?_⟩
  rcases h3.2 with ⟨r1, r2, r3⟩ | ⟨r1, r2⟩
  · rcases h2.2 with ⟨q1, q2, q3⟩ | ⟨q1, _⟩
    · rcases h1.2 with ⟨p1, p2, p3⟩ | ⟨p1, _⟩
      · exact .inl ⟨r1, p2, seg_mark p3 q3 r3⟩
      · rw [q2] at p1; cases p1
    · rw [r2] at q1; cases q1
  · refine .inr ⟨r1, fun hb => ?_⟩
    rcases h1.2 with ⟨p1, p2, p3⟩ | ⟨p1, p2⟩
    · rcases h2.2 with ⟨q1, q2, q3⟩ | ⟨q1, q2⟩
      · exact no_markR3 p3 hd q3 (r2 q1)
      · exact no_markR2 p3 hd (q2 p1)
    · exact no_markR1 (p2 hb)
theorem Rd.item {s : List UInt8} {ms : List Mark} (h1 : Rd (fun _ : List UInt8 => True) strB l k bad s k1 b1) (h2 : Rd (manyQ markR) (manyB markB) l k1 b1 ms k2 b2) : Rd itemR itemB l k bad (s, ms) k2 b2 := by
  refine ⟨h2.1, ?_⟩
  rcases h2.2 with ⟨q1, q2, q3⟩ | ⟨q1, q2⟩
  · rcases h1.2 with ⟨p1, p2, p3⟩ | ⟨p1, _⟩
    · exact .inl ⟨q1, p2, seg_item p3 q3⟩
    · rw [q2] at p1; cases p1
  · refine .inr ⟨q1, fun hb => ?_⟩
    rcases h1.2 with ⟨p1, p2, p3⟩ | ⟨p1, p2⟩
    · exact no_itemR2 p3 (q2 p1)
    · exact no_itemR1 (p2 hb)
theorem Rd.cart {x : Ctx} {its : List Item} (h1 : Rd ctxR ctxB l k bad x k1 b1) (hx : ctxR x) (h2 : Rd (manyQ itemR) (manyB itemB) l k1 b1 its k2 b2) : Rd cartR bytes l k bad (x, its) k2 b2 := by
  refine ⟨h2.1, ?_⟩
  rcases h2.2 with ⟨q1, q2, q3⟩ | ⟨q1, q2⟩
  · rcases h1.2 with ⟨p1, p2, p3⟩ | ⟨p1, _⟩
    · exact .inl ⟨q1, p2, seg_cart p3 q3⟩
    · rw [q2] at p1; cases p1
  · refine .inr ⟨q1, fun hb => ?_⟩
    rcases h1.2 with ⟨p1, p2, p3⟩ | ⟨p1, p2⟩
    · exact no_cartR2 p3 hx (q2 p1)
    · exact no_cartR1 (p2 hb)
theorem Rd.yes {α : Type} {Q : α → Prop} {f : α → List UInt8} {y : α} (h : Rd Q f l k bad y k1 b1) (hb : b1 = false) : Seg (f y) l k k1 := by
  rcases h.2 with ⟨_, _, h⟩ | ⟨h, _⟩
  · exact h
  · rw [hb] at h; cases h
theorem Rd.no {α : Type} {Q : α → Prop} {f : α → List UInt8} {y : α} (h : Rd Q f l k false y k1 b1) (hb : b1 = true) : No Q f l k := by
  rcases h.2 with ⟨h, _, _⟩ | ⟨_, h⟩
  · rw [hb] at h; cases h
  · exact h rfl
end
/-- What the reference's reading of a cart gives. -/
def PrefR (l : List UInt8) (c : Cart) (k : Nat) (found : Bool) : Prop := (found = true ∧ cartR c ∧ Seg (bytes c) l 0 k) ∨ (found = false ∧ k = 0 ∧ c = nil0 ∧ No cartR bytes l 0)
end Go.Pn.Cn
end
section
/-
  PLAIN LAWS OF READING: there is one answer; how many carts bytes are; the chapter's examples. Of no program.
-/
namespace Go.Pn.Cn
open Go Go.Pn
theorem Pref.uniq {l : List UInt8} {c c' : Cart} {k k' : Nat} {e e' : Int} (h : Pref l c k e) (h' : Pref l c' k' e') : c = c' ∧ k = k' ∧ e = e' := by
  rcases h with ⟨rfl, h1, h2⟩ | ⟨rfl, rfl, rfl, h1⟩
  · rcases h' with ⟨rfl, g1, g2⟩ | ⟨rfl, rfl, rfl, g1⟩
    · obtain ⟨rfl, _⟩ := h2.uniq pre_val h1 g1 g2.1
      exact ⟨rfl, by rw [h2.2.1, g2.2.1], rfl⟩
    · exact absurd h2.1 (g1 _ _ h1)
  · rcases h' with ⟨rfl, g1, g2⟩ | ⟨rfl, rfl, rfl, g1⟩
    · exact absurd g2.1 (h1 _ _ g1)
    · exact ⟨rfl, rfl, rfl⟩
theorem bytes_one {c c' : Cart} (h : valid c = true) (h' : valid c' = true) (e : bytes c = bytes c') : c = c' := (pre_val c c' [] [] h h' (by rw [e])).1
theorem CartRes.uniq {l : List UInt8} {c c' : Cart} {e e' : Int} (h : CartRes l c e) (h' : CartRes l c' e') : c = c' ∧ e = e' := by
  rcases h with ⟨rfl, h1, h2⟩ | ⟨rfl, rfl, h1⟩
  · rcases h' with ⟨rfl, g1, g2⟩ | ⟨rfl, rfl, g1⟩
    · exact ⟨bytes_one h1 g1 (by rw [← h2, ← g2]), rfl⟩
    · exact absurd h2 (g1 _ h1)
  · rcases h' with ⟨rfl, g1, g2⟩ | ⟨rfl, rfl, g1⟩
    · exact absurd g2 (h1 _ g1)
    · exact ⟨rfl, rfl⟩
theorem CtxRes.uniq {l : List UInt8} {c c' : Ctx} {e e' : Int} (h : CtxRes l c e) (h' : CtxRes l c' e') : c = c' ∧ e = e' := by
  rcases h with ⟨rfl, h1, h2⟩ | ⟨rfl, rfl, h1⟩
  · rcases h' with ⟨rfl, g1, g2⟩ | ⟨rfl, rfl, g1⟩
    · exact ⟨(pre_comp c c' [] [] h1 g1 (by rw [← h2, ← g2])).1, rfl⟩
    · exact absurd h2 (g1 _ h1)
  · rcases h' with ⟨rfl, g1, g2⟩ | ⟨rfl, rfl, g1⟩
    · exact absurd g2 (h1 _ g1)
    · exact ⟨rfl, rfl⟩
/-! how many carts -/
def CountRes (l : List UInt8) (n : Nat) (e : Int) : Prop := (e = 0 ∧ ∃ cs : List Cart, manyQ val cs ∧ l = cs.flatMap bytes ∧ n = cs.length) ∨ (e = 12 ∧ n = 0 ∧ ∀ cs : List Cart, manyQ val cs → l ≠ cs.flatMap bytes)
theorem carts_split : ∀ (cs cs' : List Cart) (r : List UInt8), manyQ val cs → manyQ val cs' → cs.flatMap bytes ++ r = cs'.flatMap bytes → ∃ ds, cs' = cs ++ ds ∧ r = ds.flatMap bytes
  | [], cs', r, _, _, e => ⟨cs', rfl, e⟩
  | c :: cs, [], r, h, h', e => by
    have := congrArg List.length e
    have := bytes_len c
    simp only [List.flatMap_cons, List.flatMap_nil, List.length_append, List.length_nil] at *
    omega
  | c :: cs, c' :: cs', r, h, h', e => by
    rw [List.flatMap_cons, List.flatMap_cons, List.append_assoc] at e
    obtain ⟨rfl, e2⟩ := pre_val c c' _ _ (h c (by simp)) (h' c' (by simp)) e
    obtain ⟨ds, rfl, h2⟩ := carts_split cs cs' r (fun x hx => h x (by simp [hx])) (fun x hx => h' x (by simp [hx])) e2
    exact ⟨ds, rfl, h2⟩
theorem CountRes.uniq {l : List UInt8} {n n' : Nat} {e e' : Int} (h : CountRes l n e) (h' : CountRes l n' e') : n = n' ∧ e = e' := by
  rcases h with ⟨rfl, cs, h1, h2, h3⟩ | ⟨rfl, rfl, h1⟩
  · rcases h' with ⟨rfl, cs', g1, g2, g3⟩ | ⟨rfl, rfl, g1⟩
    · obtain ⟨ds, rfl, h4⟩ := carts_split cs cs' [] h1 g1 (by rw [List.append_nil, ← h2, ← g2])
      have : ds = [] := by
        cases ds with
        | nil => rfl
        | cons d ds =>
          have := congrArg List.length h4
          have := bytes_len d
          simp only [List.flatMap_cons, List.length_append, List.length_nil] at *
          omega
      subst this
      rw [List.append_nil] at g3
      exact ⟨by omega, rfl⟩
    · exact absurd h2 (g1 _ h1)
  · rcases h' with ⟨rfl, cs', g1, g2, g3⟩ | ⟨rfl, rfl, g1⟩
    · exact absurd g2 (h1 _ g1)
    · exact ⟨rfl, rfl⟩
/-- Some carts were read; what is left. -/
theorem count_step {l : List UInt8} {cs : List Cart} {c : Cart} {k k' : Nat} (hs : Seg (cs.flatMap bytes) l 0 k) (h : Seg (bytes c) (l.drop k) 0 k') : Seg ((cs ++ [c]).flatMap bytes) l 0 (k + k') ∧ 3 ≤ k' := by
  have h1 := h.2.2
  have h2 := hs.2.2
  rw [List.length_drop] at h1
  have h3 := h.2.1
  have h4 := bytes_len c
  refine ⟨hs.snoc ⟨?_, by omega, by omega⟩, by omega⟩
  have h5 := h.1
  rw [List.drop_zero, List.drop_drop] at h5
  exact h5
theorem count_no {l : List UInt8} {cs : List Cart} {k : Nat} (hs : Seg (cs.flatMap bytes) l 0 k) (hq : manyQ val cs) (hk : k < l.length) (h : No val bytes (l.drop k) 0) : CountRes l 0 12 := by
  refine .inr ⟨rfl, rfl, fun cs' hq' e => ?_⟩
  have h1 := hs.1
  rw [List.drop_zero] at h1
  obtain ⟨ds, rfl, h2⟩ := carts_split cs cs' (l.drop k) hq hq' (by rw [← h1, ← e])
  cases ds with
  | nil =>
    have := congrArg List.length h2
    simp only [List.length_drop, List.flatMap_nil, List.length_nil] at this
    omega
  | cons d ds => exact h d (ds.flatMap bytes) (hq' d (by simp)) (by rw [List.drop_zero, h2, List.flatMap_cons])
theorem count_yes {l : List UInt8} {cs : List Cart} {k : Nat} (hs : Seg (cs.flatMap bytes) l 0 k) (hq : manyQ val cs) (hk : k = l.length) : CountRes l cs.length 0 := .inl ⟨rfl, cs, hq, seg_whole hs hk, rfl⟩
/-- What the reference says of the front of bytes, told as the code's answer. -/
theorem PrefR.no {l : List UInt8} {c : Cart} {k : Nat} {found : Bool} (h : PrefR l c k found) (hv : found = false ∨ valid c = false) : No val bytes l 0 := by
  rcases h with ⟨rfl, h1, h2⟩ | ⟨_, _, _, h1⟩
  · rcases hv with hv | hv
    · cases hv
    · intro y r hy e
      obtain ⟨rfl, _⟩ := h2.uniq pre_cart h1 (validR hy) e
      rw [show valid c = true from hy] at hv
      cases hv
  · exact h1.mono fun _ hy => validR hy
theorem PrefR.yes {l : List UInt8} {c : Cart} {k : Nat} {found : Bool} (h : PrefR l c k found) (hv : found = true) : Seg (bytes c) l 0 k := by
  rcases h with ⟨_, _, h2⟩ | ⟨h1, _⟩
  · exact h2
  · rw [hv] at h1; cases h1
/-! the examples -/
theorem cart_short {l : List UInt8} (h : l.length < 3) : CartRes l nil0 12 := .inr ⟨rfl, rfl, fun y _ e => by have := bytes_len y; rw [← e] at this; omega⟩
theorem pref_short {l : List UInt8} (h : l.length < 3) : Pref l nil0 0 12 := .inr ⟨rfl, rfl, rfl, fun y r _ e => by have := bytes_len y; have := congrArg List.length e; rw [List.drop_zero, List.length_append] at this; omega⟩
theorem seg_front {s r : List UInt8} : Seg s (s ++ r) 0 s.length := by
  have := Seg.of (l := s ++ r) (k := 0) (s := s) (r := r) rfl (Nat.zero_le _)
  rwa [Nat.zero_add] at this
theorem is_nil0 : CartRes [0, 0, 0] nil0 0 := .inl ⟨rfl, valid_nil0, bytes_nil0.symm⟩
theorem is_exam : CartRes [1, 2, 3, 1, 5, 9, 1, 3, 116, 101, 97, 1, 2, 3, 200, 1, 1] exam 0 := .inl ⟨rfl, valid_exam, bytes_exam.symm⟩
theorem not_four : CartRes [0, 0, 0, 0] nil0 12 := .inr ⟨rfl, rfl, cart_more (x := nil0) (k := 3) (by have := seg_front (s := bytes nil0) (r := [0]); rw [bytes_nil0] at this ⊢; exact this) valid_nil0 (by decide)⟩
theorem not_long : CartRes [0, 0, 128, 0] nil0 12 := by
  refine .inr ⟨rfl, rfl, fun y _ e => ?_⟩
  unfold bytes ctxB dotsB at e
  rw [List.append_assoc, List.append_assoc] at e
  have h0 : ([0, 0, 128, 0] : List UInt8) = num 0 ++ (num 0 ++ [128, 0]) := by rw [num_lt (by decide)]; rfl
  rw [h0] at e
  obtain ⟨h1, e⟩ := num_pre _ _ _ _ e
  have h2 : y.1.1 = [] := List.eq_nil_of_length_eq_zero h1.symm
  rw [h2, List.flatMap_nil, List.nil_append, List.append_assoc] at e
  obtain ⟨h1, e⟩ := num_pre _ _ _ _ e
  have h2 : y.1.2 = [] := List.eq_nil_of_length_eq_zero h1.symm
  rw [h2, List.flatMap_nil, List.nil_append] at e
  unfold itemsB at e
  have hlt : y.2.length < 2 ^ 64 := by
    have := congrArg List.length e
    have := len_flat itemB_ge y.2
    simp only [List.length_append, List.length_cons, List.length_nil] at *
    omega
  refine no_num (x := [128, 0]) (.inr (.inl ⟨by decide, by decide, by decide⟩)) (BitVec.ofNat 64 y.2.length) (y.2.flatMap itemB) ?_
  rw [BitVec.toNat_ofNat, Nat.mod_eq_of_lt hlt]
  exact e
def near0 : Cart := (([], [(5, 1)]), [])
theorem bytes_near0 : bytes near0 = [0, 1, 5, 1, 0] := by
  unfold near0 bytes ctxB dotsB itemsB dotB u
  simp only [List.length_nil, List.length_cons, List.flatMap_nil, List.flatMap_cons, List.append_nil, Nat.zero_add]
  rw [num_lt (n := 0) (by decide), num_lt (n := 1) (by decide), num_lt (n := (BitVec.ofInt 64 5).toNat) (by decide), num_lt (n := (BitVec.ofInt 64 1).toNat) (by decide)]
  rfl
theorem near0_R : cartR near0 := ⟨⟨(fun _ h => by cases h), (fun d h => by rw [List.mem_singleton.1 h]; exact ⟨by unfold InR; omega, by unfold InR; omega⟩)⟩, (fun _ h => by cases h)⟩
theorem not_near : CartRes [0, 1, 5, 1, 0] nil0 12 := by
  refine .inr ⟨rfl, rfl, fun y hy e => ?_⟩
  rw [← bytes_near0] at e
  have h := (bytes_inj near0_R (validR hy)).1 e
  have h2 : valid near0 = false := by decide +kernel
  rw [h, show valid y = true from hy] at h2
  cases h2
theorem pref_front : Pref [0, 0, 0, 7, 7] nil0 3 0 := .inl ⟨rfl, valid_nil0, by have := seg_front (s := bytes nil0) (r := [7, 7]); rw [bytes_nil0] at this ⊢; exact this⟩
def two0 : Cart := (([(2, 3)], []), [])
theorem bytes_two0 : bytes two0 = [1, 2, 3, 0, 0] := by
  unfold two0 bytes ctxB dotsB itemsB dotB u
  simp only [List.length_nil, List.length_cons, List.flatMap_nil, List.flatMap_cons, List.append_nil, Nat.zero_add]
  rw [num_lt (n := 0) (by decide), num_lt (n := 1) (by decide), num_lt (n := (BitVec.ofInt 64 2).toNat) (by decide), num_lt (n := (BitVec.ofInt 64 3).toNat) (by decide)]
  rfl
theorem valid_two0 : valid two0 = true := by decide +kernel
theorem count_two : CountRes [0, 0, 0, 1, 2, 3, 0, 0] 2 0 := .inl ⟨rfl, [nil0, two0], fun x hx => by
  rcases List.mem_cons.1 hx with rfl | hx
  · exact valid_nil0
  · rw [List.mem_singleton.1 hx]; exact valid_two0, by simp [bytes_nil0, bytes_two0], rfl⟩
theorem count_nil : CountRes [] 0 0 := .inl ⟨rfl, [], manyQ_nil, rfl, rfl⟩
theorem count_four : CountRes [0, 0, 0, 0] 0 12 := by
  refine count_no (cs := [nil0]) (k := 3) ?_ (fun x hx => by rw [List.mem_singleton.1 hx]; exact valid_nil0) (by decide) ?_
  · have := seg_front (s := bytes nil0) (r := [0])
    rw [bytes_nil0] at this
    rw [List.flatMap_singleton, bytes_nil0]
    exact this
  · intro y r _ e
    have := bytes_len y
    have := congrArg List.length e
    simp only [List.length_append, List.length_drop, List.length_cons, List.length_nil] at this
    omega
theorem ctx_yes : CtxRes [1, 2, 3, 1, 5, 9] exam.1 0 := .inl ⟨rfl, compact_exam, ctx_exam.symm⟩
theorem ctx_no : CtxRes [1, 2, 3] ([], []) 12 := by
  refine .inr ⟨rfl, rfl, fun y hy e => ?_⟩
  have h : manyB dotB [(2, 3)] = [1, 2, 3] := by
    unfold manyB dotB u
    simp only [List.length_nil, List.length_cons, List.flatMap_nil, List.flatMap_cons, List.append_nil, Nat.zero_add]
    rw [num_lt (n := 1) (by decide), num_lt (n := (BitVec.ofInt 64 2).toNat) (by decide), num_lt (n := (BitVec.ofInt 64 3).toNat) (by decide)]
    rfl
  rw [← h] at e
  have e2 : manyB dotB [((2 : Int), (3 : Int))] ++ [] = manyB dotB y.1 ++ dotsB y.2 := by rw [List.append_nil]; exact e
  obtain ⟨_, e3⟩ := pre_manyQ pre_dot [((2 : Int), (3 : Int))] y.1 [] (dotsB y.2) (fun d hd => by rw [List.mem_singleton.1 hd]; exact ⟨by unfold InR; omega, by unfold InR; omega⟩) (fun d hd => dotQ_R ((compactQ hy).1 d hd)) e2
  have := congrArg List.length e3
  have h4 := num_len y.2.length
  unfold dotsB at this
  simp only [List.length_append, List.length_nil] at this
  omega
def bads : List (List UInt8) := [[0, 0], [0, 0, 0, 0], [0, 0, 128, 0], [], [0, 1, 5, 1, 0]]
theorem bads_no : ∀ i, ∀ h : i < bads.length, CartRes bads[i] nil0 12
  | 0, _ => cart_short (by simp [bads])
  | 1, _ => not_four
  | 2, _ => not_long
  | 3, _ => cart_short (by simp [bads])
  | 4, _ => not_near
theorem bads_len : ∀ i, ∀ h : i < bads.length, bads[i].length ≤ 900000
  | 0, _ => by simp [bads]
  | 1, _ => by simp [bads]
  | 2, _ => by simp [bads]
  | 3, _ => by simp [bads]
  | 4, _ => by simp [bads]
end Go.Pn.Cn
namespace Go.Pn.Cn
theorem flat_bound {α : Type} {f : α → List UInt8} {b n : Nat} {l : List α} (h : ∀ x ∈ l, (f x).length ≤ b) (hn : l.length ≤ n) : (l.flatMap f).length ≤ b * n := Nat.le_trans (flatMap_le h) (Nat.mul_le_mul_left b hn)
theorem bytes_small {a : Cart} (h : small a = true) : (bytes a).length ≤ 25000 := by
  obtain ⟨h1, h2, h3, h4⟩ := small_iff h
  have g1 := flat_bound (f := dotB) (b := 20) (n := 40) (l := a.1.1) (fun x _ => dotB_le x) h1
  have g2 := flat_bound (f := dotB) (b := 20) (n := 40) (l := a.1.2) (fun x _ => dotB_le x) h2
  have g3 : ∀ x ∈ a.2, (itemB x).length ≤ 1000 := by
    intro x hx
    obtain ⟨i1, i2⟩ := h4 x hx
    have g := flat_bound (f := markB) (b := 40) (n := 20) (l := x.2) (fun m _ => markB_le m) i1
    have n1 := num_le x.1.length (by omega)
    have n2 := num_le x.2.length (by omega)
    unfold itemB strB
    simp only [List.length_append]
    omega
  have g4 := flat_bound (f := itemB) (b := 1000) (n := 20) (l := a.2) g3 h3
  have n1 := num_le a.1.1.length (by omega)
  have n2 := num_le a.1.2.length (by omega)
  have n3 := num_le a.2.length (by omega)
  unfold bytes ctxB dotsB itemsB
  simp only [List.length_append]
  omega
theorem CartRes.of {l : List UInt8} {c : Cart} {e : Int} (h : CartRes l c e) (he : e = 0) : valid c = true ∧ bytes c = l := by
  rcases h with ⟨_, h1, h2⟩ | ⟨h1, _⟩
  · exact ⟨h1, h2.symm⟩
  · rw [he] at h1; cases h1
end Go.Pn.Cn
end
