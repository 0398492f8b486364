/-
  Rows of structs that are sorted in place. No condition.
-/
import Derived.Test.YtnkcmaoaagnopaaGreatDoorFw11
import Derived.Shelf.SlSortCmp.WholeK
namespace Go.Pn
open Go.RowKit Go.Sort Go.Proofs
section
variable {α : Type} [Inhabited α] {G : Flat α} {ty : TypeId} {B : Nat} {w : World} {l : List α} {g cap : Nat}
theorem flatK_list (G : Flat α) (l : List α) : (flatK G.e G.sz l.toArray).toList = l.flatMap G.e := by
  apply List.ext_getElem?
  intro t
  by_cases ht : t < l.length * G.sz
  · have h1 : t < (l.flatMap G.e).length := by rw [G.length]; exact ht
    obtain ⟨hi, hu⟩ := G.get l (List.getElem?_eq_getElem h1)
    have h2 : t < (flatK G.e G.sz l.toArray).size := by rw [size_flatK]; simpa using ht
    rw [Array.getElem?_toList, Array.getElem?_eq_getElem h2, List.getElem?_eq_getElem h1]
    congr 1
    have h3 := get_flatK G.e G.sz l.toArray t (by simpa using ht)
    rw [getElem!_pos _ t h2] at h3
    rw [h3]
    have h4 : l.toArray[t / G.sz]! = l[t / G.sz] := by
      rw [getElem!_pos l.toArray _ (by simpa using hi)]
      simp
    rw [h4, List.getElem!_eq_getElem?_getD, hu]
    rfl
  · rw [List.getElem?_eq_none (by rw [Array.length_toList, size_flatK]; simpa using ht), List.getElem?_eq_none (by rw [G.length]; omega)]
theorem OwnF.holdsK (h : OwnF G ty B w (.slice (some ⟨g, 0, none⟩) l.length cap) l) : HoldsK G.e G.sz w g 0 l.toArray ∧ g < w.heap.size := by
  obtain ⟨h0, hm⟩ := h
  rcases h0.2 with ⟨h1, _⟩ | ⟨g', cap', cur, h1, hb, hg, hn, hc, hsz, ht⟩
  · cases h1
  · have e1 : g = g' := by cases h1; rfl
    subst e1
    refine ⟨?_, lt_of_some hg⟩
    intro j hj
    rw [size_flatK] at hj
    have hj2 : j < l.length * G.sz := by simpa using hj
    have hjc : j < cur.size := by
      have := Nat.mul_le_mul_right G.sz hn
      have e2 : cap = cap' := by cases h1; rfl
      omega
    have hcell : cur[j]? = some (id (flatK G.e G.sz l.toArray)[j]!) := by
      have h2 : j < (flatK G.e G.sz l.toArray).size := by rw [size_flatK]; exact hj
      have h3 : (flatK G.e G.sz l.toArray)[j]? = cur[j]? := by
        rw [← Array.getElem?_toList, flatK_list, ← ht, List.getElem?_take, if_pos hj2, Array.getElem?_toList]
      rw [← h3, getElem!_pos _ j h2, Array.getElem?_eq_getElem h2]
      rfl
    constructor
    · simp only [World.cell?, hg, Nat.zero_add]
      simpa using hcell
    · simp [World.frozen?, hg]
/-- Behind the sort. -/
theorem OwnF.sortedK (h : OwnF G ty B w (.slice (some ⟨g, 0, none⟩) l.length cap) l) {d : Array α} (hd : d.size = l.length) (m : Nat) (os : Array Obj) :
    OwnF G ty B (sortWorldK G.e G.sz w g 0 m d os) (.slice (some ⟨g, 0, none⟩) l.length cap) d.toList ∧ Ext (fun k => k = g) w (sortWorldK G.e G.sz w g 0 m d os) := by
  obtain ⟨h0, hm⟩ := h
  have hsize : (sortWorldK G.e G.sz w g 0 m d os).heap.size = w.heap.size + os.size := by
    show (w.heap.modify g _ ++ os).size = _
    rw [Array.size_append, Array.size_modify]
  rcases h0.2 with ⟨h1, _⟩ | ⟨g', cap', cur, h1, hb, hg, hn, hc, hsz, ht⟩
  · cases h1
  · have e1 : g = g' := by cases h1; rfl
    have e2 : cap = cap' := by cases h1; rfl
    subst e1; subst e2
    have hlt : g < w.heap.size := lt_of_some hg
    constructor
    · have hd2 : d.toList.length = l.length := by simpa using hd
      refine ⟨⟨by rw [G.length], .inr ⟨g, cap, putCells id 0 (flatK G.e G.sz d) cur, by rw [hd2], hb, ?_, by rw [hd2]; exact hn, hc, ?_, ?_⟩⟩, by rw [hd2]; exact hm⟩
      · show (w.heap.modify g _ ++ os)[g]? = _
        rw [Array.getElem?_append_left (by rw [Array.size_modify]; exact hlt), Array.getElem?_modify, if_pos rfl, hg]
        rfl
      · unfold putCells
        rw [Array.size_mapIdx]
        exact hsz
      · rw [hd2]
        have e3 : d.toList.flatMap G.e = (flatK G.e G.sz d).toList := by
          have := flatK_list G d.toList
          rw [Array.toArray_toList] at this
          exact this.symm
        rw [e3]
        have hfs : (flatK G.e G.sz d).size = l.length * G.sz := by rw [size_flatK, hd]
        apply List.ext_getElem?
        intro j
        unfold putCells
        by_cases hj : j < l.length * G.sz
        · have hjc : j < cur.size := by
            have := Nat.mul_le_mul_right G.sz hn
            omega
          have hjf : j < (flatK G.e G.sz d).size := by omega
          rw [List.getElem?_take, if_pos hj, Array.getElem?_toList, Array.getElem?_mapIdx, Array.getElem?_eq_getElem hjc]
          simp only [Option.map_some, Nat.zero_le, true_and, Nat.zero_add, if_pos hjf, Nat.sub_zero, Array.getElem?_toList, Array.getElem?_eq_getElem hjf]
          rw [getElem!_pos _ j hjf]
          rfl
        · rw [List.getElem?_take, if_neg hj, List.getElem?_eq_none (by rw [Array.length_toList]; omega)]
    · refine ⟨rfl, rfl, rfl, by rw [hsize]; omega, fun k hk hn => ?_⟩
      show (w.heap.modify g _ ++ os)[k]? = _
      rw [Array.getElem?_append_left (by rw [Array.size_modify]; exact hk), Array.getElem?_modify, if_neg (fun h => hn h.symm)]
end
end Go.Pn
