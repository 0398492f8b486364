/-
  WHAT A ROW'S CONDITION GIVES A WALK: structs of three fields, marks, items, carts. Of no program.
-/
import Derived.Test.YtnkcmaoaagnopaaGreatDoorRow3
import Derived.Test.YtnkcmaoaagnopaaGreatDoorFw19
namespace Go.Pn
open Go.ChangeShapes Go.WideShapes Go.ChangeAt Go.RowKit
section
variable {P : Program} {W : World} {α β γ : Type} {E : Enc α} {E' : Enc β} {E'' : Enc γ} {Q : α → Prop} {Q' : β → Prop} {Q'' : γ → Prop} {t e : TypeId}
/-- A struct of three fields. -/
theorem Opens.struct3 {f0 f1 f2 : Field} (ht : P.underlying t = some (.struct #[f0, f1, f2])) (h0 : Opens P W E Q f0.type) (h1 : Opens P W E' Q' f1.type) (h2 : Opens P W E'' Q'' f2.type) (o0 : f0.offset = 0) (o1 : f1.offset = E.sz) (o2 : f2.offset = E.sz + E'.sz) (hc : P.cellsOf t = E.sz + (E'.sz + E''.sz)) :
    Opens P W (prE E (prE E' E'')) (fun x => Q x.1 ∧ Q' x.2.1 ∧ Q'' x.2.2) t := by
  refine ⟨hc, fun {H enc fuel cs x} hx => ?_⟩
  obtain ⟨xs, n, _, _, hlen, hxl, hf⟩ := DataW.trod_struct ht hx
  have g0 := hf 0 f0 rfl
  have g1 := hf 1 f1 rfl
  have g2 := hf 2 f2 rfl
  have hx2 : xs.length = 3 := hxl
  rw [List.getElem?_eq_getElem (by omega)] at g0 g1 g2
  rw [o0, List.drop_zero, h0.sz] at g0
  rw [o1, h1.sz] at g1
  rw [o2, h2.sz] at g2
  obtain ⟨d0, a1, a2⟩ := h0.op g0
  obtain ⟨d1, b1, b2⟩ := h1.op g1
  obtain ⟨d2, c1, c2⟩ := h2.op g2
  refine ⟨(d0, d1, d2), ⟨_, _, ?_, a1, ⟨_, _, rfl, b1, c1⟩⟩, a2, b2, c2⟩
  rw [← List.drop_drop, List.take_of_length_le (l := (cs.drop E.sz).drop E'.sz) (by simp; omega), List.take_append_drop, List.take_append_drop]
/-- Marks. -/
theorem Opens.marks {m : TypeId} {f0 f1 m0 m1 m2 : Field} (htm : P.underlying m = some (.struct #[m0, m1, m2])) (htd : P.underlying m0.type = some (.struct #[f0, f1])) (u0 : P.underlying f0.type = some (.int .i64)) (u1 : P.underlying f1.type = some (.int .i64)) (v1 : P.underlying m1.type = some (.int .i64)) (v2 : P.underlying m2.type = some (.int .u64))
    (c0 : P.cellsOf f0.type = 1) (c1 : P.cellsOf f1.type = 1) (cd : P.cellsOf m0.type = 2) (d1 : P.cellsOf m1.type = 1) (d2 : P.cellsOf m2.type = 1) (cm : P.cellsOf m = 4) (o0 : f0.offset = 0) (o1 : f1.offset = 1) (p0 : m0.offset = 0) (p1 : m1.offset = 2) (p2 : m2.offset = 3) : Opens P W markF.enc (fun _ => True) m :=
  (Opens.struct3 htm (Opens.struct2 htd (Opens.int u0 c0) (Opens.int u1 c1) o0 o1 cd) (Opens.int v1 d1) (Opens.int v2 d2) p0 p1 p2 cm).imp rfl fun cs d h hq => by
    obtain ⟨_, _, rfl, ⟨a, b, rfl, ha, hb⟩, c', e', rfl, hx, hy⟩ := h
    obtain ⟨_, _, hw⟩ := hq
    simp only [Lit.wf, Bool.and_eq_true, decide_eq_true_eq] at hw
    have hlo : (0 : Int) ≤ d.2.2 := hw.1
    have hhi : d.2.2 ≤ 18446744073709551615 := hw.2
    refine ⟨((d.1.1, d.1.2), d.2.1, BitVec.ofInt 64 d.2.2), ?_, trivial⟩
    have e4 : ((BitVec.ofInt 64 d.2.2).toNat : Int) = d.2.2 := by
      rw [BitVec.toNat_ofInt]
      omega
    rw [show a = [.int .i64 d.1.1] from ha, show b = [.int .i64 d.1.2] from hb]
    show _ = [Value.int .i64 d.1.1, .int .i64 d.1.2, .int .i64 d.2.1, .int .u64 ((BitVec.ofInt 64 d.2.2).toNat : Int)]
    rw [e4]
    rw [show c' = [.int .i64 d.2.1] from hx, show e' = [.int .u64 d.2.2] from hy]
    rfl
/-- Items. -/
theorem Opens.item {i m : TypeId} {f0 f1 : Field} (hm : Opens P W markF.enc (fun _ => True) m) (hti : P.underlying i = some (.struct #[f0, f1])) (hs : P.underlying f0.type = some .string) (hsl : P.underlying f1.type = some (.slice m)) (c0 : P.cellsOf f0.type = 1) (c1 : P.cellsOf f1.type = 1) (ci : P.cellsOf i = 2) (o0 : f0.offset = 0) (o1 : f1.offset = 1) : Opens P W itemE (fun _ => True) i :=
  (Opens.struct2 hti (Opens.str hs c0) (hm.slice hsl c1 (by decide)) o0 o1 ci).imp rfl fun cs d h _ => by
    obtain ⟨a, b, rfl, ha, v, rfl, hv⟩ := h
    refine ⟨(d.1, d.2), ⟨v, ?_, hv⟩, trivial⟩
    rw [show a = [Go.Pn.str d.1] from ha]
    rfl
end
theorem i32_of {P : Program} {W : World} {H : Type} {enc : TypeId × Value → H} {t : TypeId} {base : Nat} {v : Value} {d : DataW H} {p : List MemPlace} (ht : P.underlying t = some (.int .i32)) (hval : Value.okWide P W .any base t v) (h : DataW.Trod enc P W 0 (fun _ => true) true t v d p) :
    ∃ z : Int, v = .int .i32 z ∧ -2147483648 ≤ z ∧ z ≤ 2147483647 := by
  obtain ⟨z, rfl, _, _, hw⟩ := open_int ht hval h
  simp only [Lit.wf, Bool.and_eq_true, decide_eq_true_eq] at hw
  exact ⟨z, rfl, hw.1, hw.2⟩
theorem bool_of {P : Program} {W : World} {t : TypeId} {base : Nat} {v : Value} (ht : P.underlying t = some .bool) (hval : Value.okWide P W .any base t v) : ∃ b : Bool, v = .bool b := okWide_bool ht hval
end Go.Pn
