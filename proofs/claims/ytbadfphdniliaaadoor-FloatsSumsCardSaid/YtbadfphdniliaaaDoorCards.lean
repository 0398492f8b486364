/-
  DERIVED. GIVEN WITH THE SEED: THE CARDS: each row of YtbadfphdniliaaaDoorRows.lean that lists a variable, with what it lists TIED to the program's text (the seventh form; the later family's looks); each row that meets fmt, with fmt's text TOLD by the authors' own Lean function (tested against real Go, not proved from fmt's source: count such statements apart). THE CARD IS WHAT COUNTS. Prove the row's statement (the work); the ties are given (YtbadfphdniliaaaDoorTie.lean); close each card by the builder's one call (the guide's Derived/Test/ToyasCard.lean, 'card_holds'). Laid BY PROGRAM, IN A SANDBOX (cutbox-door.mjs). By AI agents, Wed Nov 11 2026. No macro, syntax, notation, axiom, sorry.
-/
import Derived.Test.YtbadfphdniliaaaDoorRows
import GoSem.ClaimSeven
namespace Go.Proofs.YtbadfphdniliaaaDoor
namespace Rows

/-- THE TIED CARD OF 'pannierlaw13.FloatsKeys'. -/
def floatsKeysCard : Claim7 := { stood := { row := floatsKeysRow, standIns := [], harness := (true, "f44f7171ccf0596cf8eb51a4f3f27008909d4c3a1ab9ac2a62e2acf58c79603d"), looks := true }, kinds := [], alts := [], laidByText := true, laidKinds := [.data, .data, .data, .sentinel, .sentinel], laidTests := true, laidLooks := .later }
def FloatsKeysCardSaid : Prop := Claim7.holds Tryd.pinned (.plain (OpenSpec.ofChange floatsKeysSpec)) floatsKeysCard

/-- THE TIED CARD OF 'pannierlaw13.FloatsCanons'. -/
def floatsCanonsCard : Claim7 := { stood := { row := floatsCanonsRow, standIns := [], harness := (true, "f44f7171ccf0596cf8eb51a4f3f27008909d4c3a1ab9ac2a62e2acf58c79603d"), looks := true }, kinds := [], alts := [], laidByText := true, laidKinds := [.data, .data, .data, .sentinel, .sentinel], laidTests := true, laidLooks := .later }
def FloatsCanonsCardSaid : Prop := Claim7.holds Tryd.pinned (.plain (OpenSpec.ofChange floatsCanonsSpec)) floatsCanonsCard

/-- THE TIED CARD OF 'pannierlaw13.FloatsSums'. -/
def floatsSumsCard : Claim7 := { stood := { row := floatsSumsRow, standIns := [], harness := (true, "f44f7171ccf0596cf8eb51a4f3f27008909d4c3a1ab9ac2a62e2acf58c79603d"), looks := true }, kinds := [], alts := [], laidByText := true, laidKinds := [.data, .data, .data, .sentinel, .sentinel], laidTests := true, laidLooks := .later }
def FloatsSumsCardSaid : Prop := Claim7.holds Tryd.pinned (.plain (OpenSpec.ofChange floatsSumsSpec)) floatsSumsCard

/-- THE TIED CARD OF 'pannierlaw13.FloatsTexts'. -/
def floatsTextsCard : Claim7 := { stood := { row := floatsTextsRow, standIns := [], harness := (true, "f44f7171ccf0596cf8eb51a4f3f27008909d4c3a1ab9ac2a62e2acf58c79603d"), looks := true }, kinds := [], alts := [], laidByText := true, laidKinds := [.data, .data, .data, .sentinel, .sentinel], laidTests := true, laidLooks := .later }
def FloatsTextsCardSaid : Prop := Claim7.holds Tryd.pinned (.plain (OpenSpec.ofChange floatsTextsSpec)) floatsTextsCard

/-- THE TIED CARD OF 'pannierlaw13.FloatsOrders'. -/
def floatsOrdersCard : Claim7 := { stood := { row := floatsOrdersRow, standIns := [], harness := (true, "f44f7171ccf0596cf8eb51a4f3f27008909d4c3a1ab9ac2a62e2acf58c79603d"), looks := true }, kinds := [], alts := [], laidByText := true, laidKinds := [.data, .data, .data, .sentinel, .sentinel], laidTests := true, laidLooks := .later }
def FloatsOrdersCardSaid : Prop := Claim7.holds Tryd.pinned (.plain (OpenSpec.ofChange floatsOrdersSpec)) floatsOrdersCard

/-- THE TIED CARD OF 'pannierlaw13.FloatsHolds'. -/
def floatsHoldsCard : Claim7 := { stood := { row := floatsHoldsRow, standIns := [], harness := (true, "f44f7171ccf0596cf8eb51a4f3f27008909d4c3a1ab9ac2a62e2acf58c79603d"), looks := true }, kinds := [], alts := [], laidByText := true, laidKinds := [.data, .data, .data, .sentinel, .sentinel], laidTests := true, laidLooks := .later }
def FloatsHoldsCardSaid : Prop := Claim7.holds Tryd.pinned (.plain (OpenSpec.ofChange floatsHoldsSpec)) floatsHoldsCard

/-- THE SECOND FORM's CARD OF 'pannierlaw13.FloatsKeys'. -/
def floatsKeysUptoCard : Claim7 := { stood := { row := floatsKeysUptoRow, standIns := [], harness := (true, "f44f7171ccf0596cf8eb51a4f3f27008909d4c3a1ab9ac2a62e2acf58c79603d"), looks := true }, kinds := [], alts := [], laidByText := true, laidKinds := [.data, .data, .data, .sentinel, .sentinel], laidTests := true, laidLooks := .later }
def FloatsKeysUptoCardSaid : Prop := Claim7.holds Tryd.pinned (.plain (OpenSpec.upto floatsKeysSpec)) floatsKeysUptoCard

/-- THE SECOND FORM's CARD OF 'pannierlaw13.FloatsCanons'. -/
def floatsCanonsUptoCard : Claim7 := { stood := { row := floatsCanonsUptoRow, standIns := [], harness := (true, "f44f7171ccf0596cf8eb51a4f3f27008909d4c3a1ab9ac2a62e2acf58c79603d"), looks := true }, kinds := [], alts := [], laidByText := true, laidKinds := [.data, .data, .data, .sentinel, .sentinel], laidTests := true, laidLooks := .later }
def FloatsCanonsUptoCardSaid : Prop := Claim7.holds Tryd.pinned (.plain (OpenSpec.upto floatsCanonsSpec)) floatsCanonsUptoCard

/-- THE SECOND FORM's CARD OF 'pannierlaw13.FloatsSums'. -/
def floatsSumsUptoCard : Claim7 := { stood := { row := floatsSumsUptoRow, standIns := [], harness := (true, "f44f7171ccf0596cf8eb51a4f3f27008909d4c3a1ab9ac2a62e2acf58c79603d"), looks := true }, kinds := [], alts := [], laidByText := true, laidKinds := [.data, .data, .data, .sentinel, .sentinel], laidTests := true, laidLooks := .later }
def FloatsSumsUptoCardSaid : Prop := Claim7.holds Tryd.pinned (.plain (OpenSpec.upto floatsSumsSpec)) floatsSumsUptoCard

/-- THE SECOND FORM's CARD OF 'pannierlaw13.FloatsTexts'. -/
def floatsTextsUptoCard : Claim7 := { stood := { row := floatsTextsUptoRow, standIns := [], harness := (true, "f44f7171ccf0596cf8eb51a4f3f27008909d4c3a1ab9ac2a62e2acf58c79603d"), looks := true }, kinds := [], alts := [], laidByText := true, laidKinds := [.data, .data, .data, .sentinel, .sentinel], laidTests := true, laidLooks := .later }
def FloatsTextsUptoCardSaid : Prop := Claim7.holds Tryd.pinned (.plain (OpenSpec.upto floatsTextsSpec)) floatsTextsUptoCard

/-- THE SECOND FORM's CARD OF 'pannierlaw13.FloatsOrders'. -/
def floatsOrdersUptoCard : Claim7 := { stood := { row := floatsOrdersUptoRow, standIns := [], harness := (true, "f44f7171ccf0596cf8eb51a4f3f27008909d4c3a1ab9ac2a62e2acf58c79603d"), looks := true }, kinds := [], alts := [], laidByText := true, laidKinds := [.data, .data, .data, .sentinel, .sentinel], laidTests := true, laidLooks := .later }
def FloatsOrdersUptoCardSaid : Prop := Claim7.holds Tryd.pinned (.plain (OpenSpec.upto floatsOrdersSpec)) floatsOrdersUptoCard

/-- THE SECOND FORM's CARD OF 'pannierlaw13.FloatsHolds'. -/
def floatsHoldsUptoCard : Claim7 := { stood := { row := floatsHoldsUptoRow, standIns := [], harness := (true, "f44f7171ccf0596cf8eb51a4f3f27008909d4c3a1ab9ac2a62e2acf58c79603d"), looks := true }, kinds := [], alts := [], laidByText := true, laidKinds := [.data, .data, .data, .sentinel, .sentinel], laidTests := true, laidLooks := .later }
def FloatsHoldsUptoCardSaid : Prop := Claim7.holds Tryd.pinned (.plain (OpenSpec.upto floatsHoldsSpec)) floatsHoldsUptoCard
end Rows
end Go.Proofs.YtbadfphdniliaaaDoor
