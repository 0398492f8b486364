/-
  A literal of one element. No condition.
-/
import Derived.Test.YtnkcmaoaagnopaaGreatDoorFw7
namespace Go.Pn
section
variable {P : Program} {n : Nat} {ops rest : List Oper} {N : Val → World → Prop} {Z : List PanicEntry → World → Prop} {f : Val} {w : World}
  {d : Nat} {x : Operand} {t e tr : TypeId} {pos : String} {after : Array Edge}
theorem O.lit1 {ie : TypeInfo} {z v : Value} (hu : P.underlying t = some (.slice e)) (hie : P.info? e = some ie) (hsz : ie.size = 1) (hz : ie.zero = some z) (hx : ev n f x = v) (h1 : v.oneCell' = true)
    (h : ∀ b w', w.heap.size ≤ b → Own0 w' b e [v] → Le w w' → O P n ops rest N Z (upd f d (.slice (some ⟨b, 0, none⟩) 1 1)) w') :
    O P n ops ({ dst := some d, op := .buildSlice t 1 [(0, x)].toArray, type := tr, pos := pos, after := after, guard := .none } :: rest) N Z f w := by
  have hcells : v.cells = #[v] := by cases v <;> first | rfl | simp [Value.oneCell'] at h1
  refine O.lit (vs := [(0, v)]) (cells := #[v]) hu hie hz (by rw [hsz]; decide) (by rw [hsz]; decide) (by simp [hx]) ?_ h
  rw [hsz]
  simp [Instr.fill, hcells]
  have hr : Array.range 1 = #[0] := rfl
  rw [hr]
  simp
end
theorem Sl.one {α : Type} {G : Flat α} {w : World} {b : Nat} {ty : TypeId} {x : α} {v : Value} (h : Own w b ty [v]) (hv : G.e x = [v]) (h1 : G.sz = 1) : Sl G.enc w (fun k => k = b) (.slice (some ⟨b, 0, none⟩) 1 1) [x] :=
  Sl.of_own (xs := [x]) h (by simp [h1, hv]) (by simp) (by unfold maxLen; omega) (by simp [h1])
end Go.Pn
