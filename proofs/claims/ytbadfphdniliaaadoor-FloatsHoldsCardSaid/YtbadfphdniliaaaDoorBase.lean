/-
  What the rows' listed variables give the walks; a world that holds them.
-/
import Derived.Test.YtbadfphdniliaaaDoorRow2
import Derived.Test.YtbadfphdniliaaaDoorFl6
import Derived.Test.YtbadfphdniliaaaDoorCards
import Derived.Test.YtbadfphdniliaaaDoorTie
namespace Go.Proofs.YtbadfphdniliaaaDoor
open Go.Pn Go.ChangeShapes Go.WideShapes Go.ChangeAt Go.RowKit
theorem pOwn : ownKnob Tryd.prog.godebug = none := by kernel_rfl
theorem pLaidOut : laidOutB Tryd.prog = true := by kernel_rfl
theorem pCells22 : Tryd.prog.cellsOf 22 = 1 := by kernel_rfl
theorem pCells5 : Tryd.prog.cellsOf 5 = 1 := by kernel_rfl
theorem pFacts {W : World} (h : laidMetH Tryd.prog Rows.floatsKeysRow.laid W) :
    Row byteE W (fun k => k = 6) 6 0 Hex.bruijn ∧ (∃ es, CellIs W 3 es ∧ ∃ te pe, es = .iface te pe) ∧ ∃ er, CellIs W 4 er ∧ ∃ te pe, er = .iface te pe := by
  have h2 := laidH h (by kernel_rfl)
  refine ⟨row_tab h2 (name := "math/bits.deBruijn64tab") (.tail _ (.head _)) (by kernel_rfl) (by kernel_rfl) (by kernel_rfl) Tryd.underlying130 Tryd.underlying5 pCells5 (by kernel_rfl), ?_, ?_⟩
  · obtain ⟨te, pe, h3⟩ := cell_err h2 (name := "strconv.ErrSyntax") (.tail _ (.tail _ (.tail _ (.tail _ (.head _))))) (by kernel_rfl) (by kernel_rfl) Tryd.underlying73
    exact ⟨_, h3, te, pe, rfl⟩
  · obtain ⟨te, pe, h3⟩ := cell_err h2 (name := "strconv.ErrRange") (.tail _ (.tail _ (.tail _ (.head _)))) (by kernel_rfl) (by kernel_rfl) Tryd.underlying73
    exact ⟨_, h3, te, pe, rfl⟩
def pVals : DataW Unit → Array Value
  | .agg l => (l.map fun | .lit (.int k n) => Value.int k n | _ => .nilIface).toArray
  | _ => #[]
def pPut (h : Array Obj) (g : Nat) (cs : Array Value) : Array Obj := h.modify g fun
  | .cells _ t frozen => .cells cs t frozen
  | o => o
noncomputable def pWorld (os : Os) : World :=
  { World.holding Tryd.prog os ⟨#[], #[], []⟩ with heap :=
      ((pPut (pPut (pPut (pPut (pPut (World.holding Tryd.prog os ⟨#[], #[], []⟩).heap 1 (pVals Rows.laid_internal_strconv_uint64pow10)) 5 (pVals Rows.laid_math_bits_deBruijn32tab)) 6 (pVals Rows.laid_math_bits_deBruijn64tab))
        3 #[.iface 131 (.pointer (some ⟨(World.holding Tryd.prog os ⟨#[], #[], []⟩).heap.size, 0, none⟩))]) 4 #[.iface 131 (.pointer (some ⟨(World.holding Tryd.prog os ⟨#[], #[], []⟩).heap.size + 1, 0, none⟩))]).push
        (.cells #[.string ⟨#[105, 110, 118, 97, 108, 105, 100, 32, 115, 121, 110, 116, 97, 120]⟩] 133)).push (.cells #[.string ⟨#[118, 97, 108, 117, 101, 32, 111, 117, 116, 32, 111, 102, 32, 114, 97, 110, 103, 101]⟩] 133) }
set_option maxRecDepth 100000 in
theorem pMet (os : Os) (args : Array Value) : laidMet Tryd.prog Rows.floatsKeysRow.laid ((pWorld os).forCall (fun _ _ => 0) ⟨#[], args, []⟩).memory :=
  laidMet_of_run' 8 (by kernel_rfl) (by kernel_rfl)
end Go.Proofs.YtbadfphdniliaaaDoor
