/-
  Elements of a slice that the call owns, written in place. No condition.
-/
import Derived.Test.YtnkcmaoaagnopaaGreatDoorFw4
namespace Go.Pn
theorem OwnF.block {α : Type} {G : Flat α} {ty : TypeId} {B : Nat} {w : World} {v : Value} {xs : List α} (h : OwnF G ty B w v xs) (hne : 0 < xs.length) :
    ∃ g cap cs, v = .slice (some ⟨g, 0, none⟩) xs.length cap ∧ Own w g ty cs ∧ cs.take (xs.length * G.sz) = xs.flatMap G.e ∧ xs.length ≤ cap ∧ cap ≤ maxLen ∧ cap * G.sz ≤ cs.length ∧ B ≤ g := by
  rcases h.1.2 with ⟨rfl, h0⟩ | ⟨g, cap, cur, rfl, hb, hg, hn, hm, hs, ht⟩
  · omega
  · exact ⟨g, cap, cur.toList, rfl, ⟨(0, 0), by simpa using hg, .inl rfl⟩, ht, hn, hm, by simp; omega, hb⟩
theorem Row.lt {α : Type} {E : Enc α} {w : World} {F : Nat → Prop} {b off : Nat} {xs : List α} (h : Row E w F b off xs) : b < w.heap.size := by
  obtain ⟨_, _, _, _, h, _⟩ := h
  exact lt_of_some h
section
variable {P : Program} {n : Nat} {ops rest : List Oper} {N : Val → World → Prop} {Z : List PanicEntry → World → Prop} {f : Val} {w : World}
  {d : Nat} {x y : Operand} {t e tr : TypeId} {pos : String} {after : Array Edge}
/-- The address of an element of a slice of the call's own. -/
theorem O.idxO {k : IntKind} {len cap s b : Nat} {i : Int} (ht : P.underlying t = some (.slice e)) (hsz : ∀ w, (sizeOf e).run P w = .ok s w) (hx : ev n f x = .slice (some ⟨b, 0, none⟩) len cap) (hy : ev n f y = .int k i) (hi : 0 ≤ i ∧ i < len)
    (h : O P n ops rest N Z (upd f d (.pointer (some ⟨b, 0 + i.toNat * s, none⟩))) w) :
    O P n ops ({ dst := some d, op := .indexAddr t x y, type := tr, pos := pos, after := after, guard := .none } :: rest) N Z f w := by
  refine O.val rfl rfl ?_ h
  have h3 : execOp (ev n f) { dst := some d, op := .indexAddr t x y, type := tr, pos := pos, after := after, guard := .none } = (do pure (.value (← Instr.indexAt t (ev n f x) (ev n f y)))) := rfl
  rw [h3, Sem.run_bind, hx, hy]
  have h4 : (Instr.indexAt t (.slice (some ⟨b, 0, none⟩) len cap) (.int k i)).run P w = .ok (.pointer (some ⟨b, 0 + i.toNat * s, none⟩)) w := by
    simp [Instr.indexAt, asIntOf, run_underlying ht, hi.1, hi.2, hsz, Addr.add_none]
  rw [h4]
  rfl
end
theorem byte_cell {cs : List Value} {L : List UInt8} {j : Nat} (hcs : cs.take (L.length * 1) = L.flatMap byteF.e) (hj : j < L.length) : cs[0 + ((j : Int)).toNat * 1]? = some (.int .u8 ((L[j].toBitVec.toNat : Nat) : Int)) := by
  rw [Int.toNat_natCast, Nat.zero_add, Nat.mul_one]
  have h : (cs.take (L.length * 1))[j]? = some (.int .u8 (L[j].toNat : Int)) := by
    rw [hcs, byteF_map]
    simp [hj]
  rw [List.getElem?_take] at h
  rw [if_pos (by omega)] at h
  exact h
theorem sl_set {w : World} {g cap : Nat} {ty : TypeId} {cs : List Value} {L : List UInt8} {j : Nat} {x : UInt8} (h : Own w g ty (cs.set j (.int .u8 ((x.toNat : Nat) : Int)))) (hcs : cs.take (L.length * 1) = L.flatMap byteF.e) (h1 : L.length ≤ cap) (h2 : cap ≤ maxLen) (h3 : cap * 1 ≤ cs.length) :
    Sl byteE w (fun k => k = g) (.slice (some ⟨g, 0, none⟩) L.length cap) (L.set j x) := by
  have hl : L.length = (L.set j x).length := by simp
  rw [hl]
  refine Sl.of_own (G := byteF) h ?_ (by simpa using h1) h2 (by rw [List.length_set]; exact h3)
  show (cs.set j _).take ((L.set j x).length * 1) = _
  rw [List.length_set, List.take_set, hcs, byteF_map, byteF_map, List.map_set]
end Go.Pn
