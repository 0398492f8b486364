/-
  What the rows' arguments give the walks; a world that holds the rows' listed variables.
-/
import Derived.Test.YtnkcmaoaagnopaaGreatDoorRow4
import Derived.Test.YtnkcmaoaagnopaaGreatDoorC13
import Derived.Test.YtnkcmaoaagnopaaGreatDoorCards
import Derived.Test.YtnkcmaoaagnopaaGreatDoorTie
namespace Go.Proofs.YtnkcmaoaagnopaaGreatDoor
open Go.Pn Go.ChangeShapes Go.WideShapes Go.ChangeAt Go.RowKit
theorem pOwn : ownKnob Tryz.prog.godebug = none := by kernel_rfl
theorem pLaidOut : laidOutB Tryz.prog = true := by kernel_rfl
theorem opensDot (W : World) : Opens Tryz.prog W Dt.dotF.enc (fun _ => True) 51 :=
  (Opens.struct2 Tryz.underlying51 (Opens.int Tryz.underlying3 (by kernel_rfl)) (Opens.int Tryz.underlying3 (by kernel_rfl)) rfl rfl (by kernel_rfl)).imp rfl fun cs d h _ => by
    obtain ⟨a, b, rfl, ha, hb⟩ := h
    exact ⟨d, by rw [show a = [.int .i64 d.1] from ha, show b = [.int .i64 d.2] from hb]; rfl, trivial⟩
theorem opensItem (W : World) : Opens Tryz.prog W itemE (fun _ => True) 56 :=
  Opens.item (Opens.marks Tryz.underlying53 Tryz.underlying51 Tryz.underlying3 Tryz.underlying3 Tryz.underlying3 Tryz.underlying49 (by kernel_rfl) (by kernel_rfl) (by kernel_rfl) (by kernel_rfl) (by kernel_rfl) (by kernel_rfl) rfl rfl rfl rfl rfl) Tryz.underlying56 Tryz.underlying9 Tryz.underlying54 (by kernel_rfl) (by kernel_rfl) (by kernel_rfl) rfl rfl
theorem opensCart (W : World) : Opens Tryz.prog W (prE (prE (slE Dt.dotF.enc) (slE Dt.dotF.enc)) (slE itemE)) (fun _ => True) 28 :=
  (Opens.struct2 Tryz.underlying28 (Opens.struct2 Tryz.underlying25 ((opensDot W).slice Tryz.underlying23 (by kernel_rfl) (by decide)) ((opensDot W).slice Tryz.underlying22 (by kernel_rfl) (by decide)) rfl rfl (by kernel_rfl)) ((opensItem W).slice Tryz.underlying26 (by kernel_rfl) (by decide)) rfl rfl (by kernel_rfl)).imp rfl fun cs d h _ => ⟨d, h, trivial⟩
set_option maxRecDepth 100000 in
theorem cart_of {W : World} {H : Type} {enc : TypeId × Value → H} {base : Nat} {v : Value} {d : DataW H} {p : List MemPlace} (hval : Value.okWide Tryz.prog W .any base 28 v) (h : DataW.Trod enc Tryz.prog W 0 (fun _ => true) true 28 v d p) :
    ∃ (v1 v2 v3 : Value) (a : Cn.Cart), v = .agg #[v1, v2, v3] ∧ Sl Dt.dotF.enc W (fun k => k < W.heap.size) v1 a.1.1 ∧ Sl Dt.dotF.enc W (fun k => k < W.heap.size) v2 a.1.2 ∧ Sl itemE W (fun k => k < W.heap.size) v3 a.2 := by
  obtain ⟨cs, rfl, _⟩ := okWide_struct Tryz.underlying28 hval
  obtain ⟨x, h1, _⟩ := (opensCart W).arg h
  obtain ⟨a, b, hab, ⟨c, e, rfl, ⟨v1, rfl, h2⟩, v2, rfl, h3⟩, v3, rfl, h4⟩ := h1
  refine ⟨v1, v2, v3, x, ?_, h2, h3, h4⟩
  have h5 : cs.toList = [v1, v2, v3] := hab
  rw [← h5]
/-- The library's variable. -/
theorem mx_of {W : World} (h : W.ShapedOpen Tryz.prog) : Mx W := ⟨Tryz.laysM144.s1_3 W h⟩
def pFlat : DataW Unit → List Value
  | .agg l => l.flatMap fun
    | .lit (.int k n) => [Value.int k n]
    | .agg l2 => l2.map fun
      | .lit (.int k n) => Value.int k n
      | _ => .nilIface
    | _ => [.nilIface]
  | _ => []
def pPut (h : Array Obj) (g : Nat) (cs : List Value) : Array Obj := h.modify g fun
  | .cells _ t frozen => .cells cs.toArray t frozen
  | o => o
noncomputable def pWorld (os : Os) : World :=
  { World.holding Tryz.prog os ⟨#[], #[], []⟩ with heap := pPut (pPut (World.holding Tryz.prog os ⟨#[], #[], []⟩).heap 1 (pFlat Rows.laid_unicode_utf8_first)) 2 (pFlat Rows.laid_unicode_utf8_acceptRanges) }
set_option maxRecDepth 100000 in
theorem pMet (os : Os) (args : Array Value) : laidMet Tryz.prog Rows.canonEncodesRow.laid ((pWorld os).forCall (fun _ _ => 0) ⟨#[], args, []⟩).memory :=
  laidMet_of_run' 8 (by kernel_rfl) (by kernel_rfl)
end Go.Proofs.YtnkcmaoaagnopaaGreatDoor
