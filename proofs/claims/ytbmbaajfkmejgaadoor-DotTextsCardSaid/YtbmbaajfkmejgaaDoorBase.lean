/-
  What the rows' listed variables give the walks; a world that holds them; arguments that are dots.
-/
import Derived.Test.YtbmbaajfkmejgaaDoorRow3
import Derived.Test.YtbmbaajfkmejgaaDoorD9
import Derived.Test.YtbmbaajfkmejgaaDoorCards
import Derived.Test.YtbmbaajfkmejgaaDoorTie
namespace Go.Proofs.YtbmbaajfkmejgaaDoor
open Go.Pn Go.ChangeShapes Go.WideShapes Go.ChangeAt Go.RowKit
theorem pOwn : ownKnob Tryd.prog.godebug = none := by kernel_rfl
theorem pLaidOut : laidOutB Tryd.prog = true := by kernel_rfl
theorem pCells23 : Tryd.prog.cellsOf 23 = 2 := by kernel_rfl
theorem pCells35 : Tryd.prog.cellsOf 35 = 1 := by kernel_rfl
theorem pCells3 : Tryd.prog.cellsOf 3 = 1 := by kernel_rfl
theorem opensDot (W : World) : Opens Tryd.prog W Dt.dotF.enc (fun _ => True) 23 :=
  (Opens.struct2 Tryd.underlying23 (Opens.int Tryd.underlying3 pCells3) (Opens.int Tryd.underlying3 pCells3) rfl rfl pCells23).imp rfl fun cs d h _ => by
    obtain ⟨a, b, rfl, ha, hb⟩ := h
    exact ⟨d, by rw [show a = [.int .i64 d.1] from ha, show b = [.int .i64 d.2] from hb]; rfl, trivial⟩
set_option maxRecDepth 100000 in
theorem dot_of {W : World} {H : Type} {enc : TypeId × Value → H} {base : Nat} {v : Value} {d : DataW H} {p : List MemPlace} (hval : Value.okWide Tryd.prog W .any base 23 v) (h : DataW.Trod enc Tryd.prog W 0 (fun _ => true) true 23 v d p) : ∃ x : Dt.Dot, v = Dt.dv x := by
  obtain ⟨cs, rfl, _⟩ := okWide_struct Tryd.underlying23 hval
  obtain ⟨x, h1, _⟩ := (opensDot W).arg h
  refine ⟨x, ?_⟩
  have h2 : cs.toList = [.int .i64 x.1, .int .i64 x.2] := h1
  unfold Dt.dv
  rw [← h2]
set_option maxRecDepth 100000 in
theorem dots_of {W : World} {H : Type} {enc : TypeId × Value → H} {base : Nat} {v : Value} {d : DataW H} {p : List MemPlace} (hval : Value.okWide Tryd.prog W .any base 35 v) (h : DataW.Trod enc Tryd.prog W 0 (fun _ => true) true 35 v d p) : ∃ l : List Dt.Dot, Sl Dt.dotF.enc W (fun k => k < W.heap.size) v l := by
  obtain ⟨l, h1, _⟩ := arg_slice (opensDot W) Tryd.underlying35 pCells35 (by decide) hval h
  exact ⟨l, h1⟩
theorem pFacts {W : World} (h : laidMetH Tryd.prog Rows.dotOrdersRow.laid W) :
    Tb W ∧ (∃ es, CellIs W 1 es ∧ ∃ te pe, es = .iface te pe) ∧ ∃ er, CellIs W 2 er ∧ ∃ te pe, er = .iface te pe := by
  have h2 := laidH h (by kernel_rfl)
  refine ⟨⟨?_⟩, ?_, ?_⟩
  · exact tab_is h2 (name := "internal/strconv.uint64pow10") (g := 3) (.tail _ (.tail _ (.head _))) (by kernel_rfl) (by kernel_rfl) (by kernel_rfl) Tryd.underlying118 Tryd.underlying78 (by kernel_rfl) (by kernel_rfl)
  · obtain ⟨te, pe, h3⟩ := cell_err h2 (name := "strconv.ErrSyntax") (.tail _ (.tail _ (.tail _ (.tail _ (.head _))))) (by kernel_rfl) (by kernel_rfl) Tryd.underlying58
    exact ⟨_, h3, te, pe, rfl⟩
  · obtain ⟨te, pe, h3⟩ := cell_err h2 (name := "strconv.ErrRange") (.tail _ (.tail _ (.tail _ (.head _)))) (by kernel_rfl) (by kernel_rfl) Tryd.underlying58
    exact ⟨_, h3, te, pe, rfl⟩
def pVals : DataW Unit → Array Value
  | .agg l => (l.map fun | .lit (.int k n) => Value.int k n | _ => .nilIface).toArray
  | _ => #[]
def pPut (h : Array Obj) (g : Nat) (cs : Array Value) : Array Obj := h.modify g fun
  | .cells _ t frozen => .cells cs t frozen
  | o => o
noncomputable def pWorld (os : Os) : World :=
  { World.holding Tryd.prog os ⟨#[], #[], []⟩ with heap :=
      ((pPut (pPut (pPut (pPut (pPut (World.holding Tryd.prog os ⟨#[], #[], []⟩).heap 3 (pVals Rows.laid_internal_strconv_uint64pow10)) 4 (pVals Rows.laid_math_bits_deBruijn32tab)) 5 (pVals Rows.laid_math_bits_deBruijn64tab))
        1 #[.iface 114 (.pointer (some ⟨(World.holding Tryd.prog os ⟨#[], #[], []⟩).heap.size, 0, none⟩))]) 2 #[.iface 114 (.pointer (some ⟨(World.holding Tryd.prog os ⟨#[], #[], []⟩).heap.size + 1, 0, none⟩))]).push
        (.cells #[.string ⟨#[105, 110, 118, 97, 108, 105, 100, 32, 115, 121, 110, 116, 97, 120]⟩] 116)).push (.cells #[.string ⟨#[118, 97, 108, 117, 101, 32, 111, 117, 116, 32, 111, 102, 32, 114, 97, 110, 103, 101]⟩] 116) }
set_option maxRecDepth 100000 in
theorem pMet (os : Os) (args : Array Value) : laidMet Tryd.prog Rows.dotOrdersRow.laid ((pWorld os).forCall (fun _ _ => 0) ⟨#[], args, []⟩).memory :=
  laidMet_of_run' 8 (by kernel_rfl) (by kernel_rfl)
end Go.Proofs.YtbmbaajfkmejgaaDoor
