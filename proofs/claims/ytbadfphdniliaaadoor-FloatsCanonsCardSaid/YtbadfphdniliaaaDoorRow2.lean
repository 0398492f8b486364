/-
  What a row's condition gives a walk: slices of numbers. Of no program.
-/
import Derived.Test.YtbadfphdniliaaaDoorRow
import Derived.Test.YtbadfphdniliaaaDoorFw7
namespace Go.Pn
open Go.ChangeShapes Go.WideShapes Go.ChangeAt Go.RowKit
section
variable {H : Type} {enc : TypeId × Value → H} {P : Program} {W W' : World}
/-- An argument of type []uint64. -/
theorem sl_u64 {t e : TypeId} {base : Nat} {v : Value} {d : DataW H} {p : List MemPlace} (ht : P.underlying t = some (.slice e)) (he : P.underlying e = some (.int .u64)) (hc : P.cellsOf e = 1)
    (hval : Value.okWide P W .any base t v) (h : DataW.Trod enc P W 0 (fun _ => true) true t v d p) : ∃ l : List (BitVec 64), Sl u64E W (fun k => k < W.heap.size) v l := by
  obtain ⟨a1, len1, cap1, rfl⟩ := okWide_slice ht hval
  obtain ⟨fuel, hf⟩ := h
  rcases open_ints ht he hc hf with ⟨hcs, _⟩ | ⟨a, len, cap, zs, hcs, _, hl, hm, hz, _, hcell, hw⟩
  · simp [Value.cells] at hcs
    obtain ⟨rfl, rfl, rfl⟩ := hcs
    exact ⟨[], Sl.nil _ _ _⟩
  · simp [Value.cells] at hcs
    obtain ⟨rfl, rfl, rfl⟩ := hcs
    simp only [Value.okWide, ht, Cell.okWide, Cell.ok] at hval
    obtain ⟨_, _, _, hsp, row, cells, hsh, _⟩ := hval
    obtain ⟨b, off, spot⟩ := a
    simp only at hsp
    subst hsp
    simp only [if_true] at hz
    have hblk : ∃ cur ty fr, W.heap[b]? = some (.cells cur ty fr) := by
      unfold World.shape? at hsh
      split at hsh
      · rename_i c el fr hh; exact ⟨c, el, fr, hh⟩
      · cases hsh
    obtain ⟨cur, ty, fr, hb⟩ := hblk
    have hcur : ∀ i, i < zs.length → cur[off + i]? = some (.int .u64 (zs.getD i 0)) := by
      intro i hi
      have := hcell i hi
      rw [Addr.add_none] at this
      unfold World.cell? at this
      simpa [hb] using this
    refine ⟨(zs.take len1).map fun z => BitVec.ofNat 64 z.toNat, ?_⟩
    have hlen : ((zs.take len1).map fun z => BitVec.ofNat 64 z.toNat).length = len1 := by simp; omega
    refine ⟨by omega, .inr ⟨b, off, cap1, cur, ty, fr, by rw [hlen], lt_of_some hb, hb, by omega, hm, ?_, ?_⟩⟩
    · intro h0
      have h1 := hcur (cap1 - 1) (by omega)
      have h2 : off + (cap1 - 1) < cur.size := by
        rcases Nat.lt_or_ge (off + (cap1 - 1)) cur.size with h | h
        · exact h
        · rw [Array.getElem?_eq_none h] at h1; cases h1
      show off + cap1 * 1 ≤ _
      omega
    · intro i hi
      have hi2 : i < len1 := by omega
      have h1 := hcur i (by omega)
      have h3 := hw (zs.getD i 0) (by rw [List.getD_eq_getElem?_getD, List.getElem?_eq_getElem (by omega)]; exact List.getElem_mem _)
      have h4 : (0 : Int) ≤ zs.getD i 0 ∧ zs.getD i 0 < 18446744073709551616 := by
        simp only [Lit.wf, Bool.and_eq_true, decide_eq_true_eq] at h3
        have e1 : IntKind.u64.min = 0 := rfl
        have e2 : IntKind.u64.max = 18446744073709551615 := rfl
        omega
      show (cur.toList.drop (off + i * 1)).take 1 = [Value.int .u64 _]
      have hlt : off + i < cur.toList.length := by
        rcases Nat.lt_or_ge (off + i) cur.size with h | h
        · simpa using h
        · rw [Array.getElem?_eq_none h] at h1; cases h1
      rw [Nat.mul_one, List.drop_eq_getElem_cons hlt, List.take_succ_cons, List.take_zero]
      have h5 : cur.toList[off + i] = .int .u64 (zs.getD i 0) := by
        have : cur.toList[off + i]? = some (.int .u64 (zs.getD i 0)) := by simpa using h1
        rw [List.getElem?_eq_getElem hlt] at this
        exact Option.some.inj this
      rw [h5]
      congr 2
      have h6 : zs.getD i 0 = zs[i]'(by omega) := by simp [List.getD_eq_getElem?_getD, show i < zs.length from by omega]
      simp only [List.getElem_map, List.getElem_take]
      rw [← h6]
      generalize zs.getD i 0 = z at h4 ⊢
      obtain ⟨n, rfl⟩ := Int.eq_ofNat_of_zero_le h4.1
      have h7 : n < 18446744073709551616 := by omega
      simp
      omega
end
end Go.Pn
