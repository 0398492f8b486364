/-
  DERIVED. GIVEN WITH THE SEED: THE CARDS: each row of YtbmbaajfkmejgaaDoorRows.lean that lists a variable, with what it lists TIED to the program's text (the seventh form; the later family's looks); each row that meets fmt, with fmt's text TOLD by the authors' own Lean function (tested against real Go, not proved from fmt's source: count such statements apart). THE CARD IS WHAT COUNTS. Prove the row's statement (the work); the ties are given (YtbmbaajfkmejgaaDoorTie.lean); close each card by the builder's one call (the guide's Derived/Test/ToyasCard.lean, 'card_holds'). Laid BY PROGRAM, IN A SANDBOX (cutbox-door.mjs). By AI agents, Wed Nov 11 2026. No macro, syntax, notation, axiom, sorry.
-/
import Derived.Test.YtbmbaajfkmejgaaDoorRows
import GoSem.ClaimSeven
namespace Go.Proofs.YtbmbaajfkmejgaaDoor
namespace Rows

/-- THE TIED CARD OF 'pannierlaw01.DotOrders'. -/
def dotOrdersCard : Claim7 := { stood := { row := dotOrdersRow, standIns := [], harness := (true, "b38ce47e4bdc1c5cd4e38a341d8a4694cf78ac454811486ce8d3c6874500b239"), looks := true }, kinds := [], alts := [], laidByText := true, laidKinds := [.data, .data, .data, .sentinel, .sentinel], laidTests := true, laidLooks := .later }
def DotOrdersCardSaid : Prop := Claim7.holds Tryd.pinned (.plain (OpenSpec.ofChange dotOrdersSpec)) dotOrdersCard

/-- THE TIED CARD OF 'pannierlaw01.DotTexts'. -/
def dotTextsCard : Claim7 := { stood := { row := dotTextsRow, standIns := [], harness := (true, "b38ce47e4bdc1c5cd4e38a341d8a4694cf78ac454811486ce8d3c6874500b239"), looks := true }, kinds := [], alts := [], laidByText := true, laidKinds := [.data, .data, .data, .sentinel, .sentinel], laidTests := true, laidLooks := .later }
def DotTextsCardSaid : Prop := Claim7.holds Tryd.pinned (.plain (OpenSpec.ofChange dotTextsSpec)) dotTextsCard

/-- THE TIED CARD OF 'pannierlaw01.DotSets'. -/
def dotSetsCard : Claim7 := { stood := { row := dotSetsRow, standIns := [], harness := (true, "b38ce47e4bdc1c5cd4e38a341d8a4694cf78ac454811486ce8d3c6874500b239"), looks := true }, kinds := [], alts := [], laidByText := true, laidKinds := [.data, .data, .data, .sentinel, .sentinel], laidTests := true, laidLooks := .later }
def DotSetsCardSaid : Prop := Claim7.holds Tryd.pinned (.plain (OpenSpec.ofChange dotSetsSpec)) dotSetsCard

/-- THE SECOND FORM's CARD OF 'pannierlaw01.DotOrders'. -/
def dotOrdersUptoCard : Claim7 := { stood := { row := dotOrdersUptoRow, standIns := [], harness := (true, "b38ce47e4bdc1c5cd4e38a341d8a4694cf78ac454811486ce8d3c6874500b239"), looks := true }, kinds := [], alts := [], laidByText := true, laidKinds := [.data, .data, .data, .sentinel, .sentinel], laidTests := true, laidLooks := .later }
def DotOrdersUptoCardSaid : Prop := Claim7.holds Tryd.pinned (.plain (OpenSpec.upto dotOrdersSpec)) dotOrdersUptoCard

/-- THE SECOND FORM's CARD OF 'pannierlaw01.DotTexts'. -/
def dotTextsUptoCard : Claim7 := { stood := { row := dotTextsUptoRow, standIns := [], harness := (true, "b38ce47e4bdc1c5cd4e38a341d8a4694cf78ac454811486ce8d3c6874500b239"), looks := true }, kinds := [], alts := [], laidByText := true, laidKinds := [.data, .data, .data, .sentinel, .sentinel], laidTests := true, laidLooks := .later }
def DotTextsUptoCardSaid : Prop := Claim7.holds Tryd.pinned (.plain (OpenSpec.upto dotTextsSpec)) dotTextsUptoCard

/-- THE SECOND FORM's CARD OF 'pannierlaw01.DotSets'. -/
def dotSetsUptoCard : Claim7 := { stood := { row := dotSetsUptoRow, standIns := [], harness := (true, "b38ce47e4bdc1c5cd4e38a341d8a4694cf78ac454811486ce8d3c6874500b239"), looks := true }, kinds := [], alts := [], laidByText := true, laidKinds := [.data, .data, .data, .sentinel, .sentinel], laidTests := true, laidLooks := .later }
def DotSetsUptoCardSaid : Prop := Claim7.holds Tryd.pinned (.plain (OpenSpec.upto dotSetsSpec)) dotSetsUptoCard
end Rows
end Go.Proofs.YtbmbaajfkmejgaaDoor
