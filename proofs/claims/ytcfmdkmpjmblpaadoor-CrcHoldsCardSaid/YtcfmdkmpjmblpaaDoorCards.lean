/-
  DERIVED. GIVEN WITH THE SEED: THE CARDS: each row of YtcfmdkmpjmblpaaDoorRows.lean that lists a variable, with what it lists TIED to the program's text (the seventh form; the later family's looks); each row that meets fmt, with fmt's text TOLD by the authors' own Lean function (tested against real Go, not proved from fmt's source: count such statements apart). THE CARD IS WHAT COUNTS. Prove the row's statement (the work); the ties are given (YtcfmdkmpjmblpaaDoorTie.lean); close each card by the builder's one call (the guide's Derived/Test/ToyasCard.lean, 'card_holds'). Laid BY PROGRAM, IN A SANDBOX (cutbox-door.mjs). By AI agents, Wed Nov 11 2026. No macro, syntax, notation, axiom, sorry.
-/
import Derived.Test.YtcfmdkmpjmblpaaDoorRows
import GoSem.ClaimSeven
namespace Go.Proofs.YtcfmdkmpjmblpaaDoor
namespace Rows

/-- THE TIED CARD OF 'pannierlaw05.CrcSums'. -/
def crcSumsCard : Claim7 := { stood := { row := crcSumsRow, standIns := [], harness := (true, "6c5d0565f064c73e795bfedc7413259cfdcacdb353970eaf48f239c1e27d347d"), looks := true }, kinds := [], alts := [], laidByText := true, laidKinds := [.data, .data, .data, .sentinel, .sentinel], laidTests := true, laidLooks := .later }
def CrcSumsCardSaid : Prop := Claim7.holds Tryd.pinned (.plain (OpenSpec.ofChange crcSumsSpec)) crcSumsCard

/-- THE TIED CARD OF 'pannierlaw05.CrcJoins'. -/
def crcJoinsCard : Claim7 := { stood := { row := crcJoinsRow, standIns := [], harness := (true, "6c5d0565f064c73e795bfedc7413259cfdcacdb353970eaf48f239c1e27d347d"), looks := true }, kinds := [], alts := [], laidByText := true, laidKinds := [.data, .data, .data, .sentinel, .sentinel], laidTests := true, laidLooks := .later }
def CrcJoinsCardSaid : Prop := Claim7.holds Tryd.pinned (.plain (OpenSpec.ofChange crcJoinsSpec)) crcJoinsCard

/-- THE TIED CARD OF 'pannierlaw05.CrcLong'. -/
def crcLongCard : Claim7 := { stood := { row := crcLongRow, standIns := [], harness := (true, "6c5d0565f064c73e795bfedc7413259cfdcacdb353970eaf48f239c1e27d347d"), looks := true }, kinds := [], alts := [], laidByText := true, laidKinds := [.data, .data, .data, .sentinel, .sentinel], laidTests := true, laidLooks := .later }
def CrcLongCardSaid : Prop := Claim7.holds Tryd.pinned (.plain (OpenSpec.ofChange crcLongSpec)) crcLongCard

/-- THE TIED CARD OF 'pannierlaw05.CrcTexts'. -/
def crcTextsCard : Claim7 := { stood := { row := crcTextsRow, standIns := [], harness := (true, "6c5d0565f064c73e795bfedc7413259cfdcacdb353970eaf48f239c1e27d347d"), looks := true }, kinds := [], alts := [], laidByText := true, laidKinds := [.data, .data, .data, .sentinel, .sentinel], laidTests := true, laidLooks := .later }
def CrcTextsCardSaid : Prop := Claim7.holds Tryd.pinned (.plain (OpenSpec.ofChange crcTextsSpec)) crcTextsCard

/-- THE TIED CARD OF 'pannierlaw05.CrcHolds'. -/
def crcHoldsCard : Claim7 := { stood := { row := crcHoldsRow, standIns := [], harness := (true, "6c5d0565f064c73e795bfedc7413259cfdcacdb353970eaf48f239c1e27d347d"), looks := true }, kinds := [], alts := [], laidByText := true, laidKinds := [.data, .data, .data, .sentinel, .sentinel], laidTests := true, laidLooks := .later }
def CrcHoldsCardSaid : Prop := Claim7.holds Tryd.pinned (.plain (OpenSpec.ofChange crcHoldsSpec)) crcHoldsCard

/-- THE SECOND FORM's CARD OF 'pannierlaw05.CrcSums'. -/
def crcSumsUptoCard : Claim7 := { stood := { row := crcSumsUptoRow, standIns := [], harness := (true, "6c5d0565f064c73e795bfedc7413259cfdcacdb353970eaf48f239c1e27d347d"), looks := true }, kinds := [], alts := [], laidByText := true, laidKinds := [.data, .data, .data, .sentinel, .sentinel], laidTests := true, laidLooks := .later }
def CrcSumsUptoCardSaid : Prop := Claim7.holds Tryd.pinned (.plain (OpenSpec.upto crcSumsSpec)) crcSumsUptoCard

/-- THE SECOND FORM's CARD OF 'pannierlaw05.CrcJoins'. -/
def crcJoinsUptoCard : Claim7 := { stood := { row := crcJoinsUptoRow, standIns := [], harness := (true, "6c5d0565f064c73e795bfedc7413259cfdcacdb353970eaf48f239c1e27d347d"), looks := true }, kinds := [], alts := [], laidByText := true, laidKinds := [.data, .data, .data, .sentinel, .sentinel], laidTests := true, laidLooks := .later }
def CrcJoinsUptoCardSaid : Prop := Claim7.holds Tryd.pinned (.plain (OpenSpec.upto crcJoinsSpec)) crcJoinsUptoCard

/-- THE SECOND FORM's CARD OF 'pannierlaw05.CrcLong'. -/
def crcLongUptoCard : Claim7 := { stood := { row := crcLongUptoRow, standIns := [], harness := (true, "6c5d0565f064c73e795bfedc7413259cfdcacdb353970eaf48f239c1e27d347d"), looks := true }, kinds := [], alts := [], laidByText := true, laidKinds := [.data, .data, .data, .sentinel, .sentinel], laidTests := true, laidLooks := .later }
def CrcLongUptoCardSaid : Prop := Claim7.holds Tryd.pinned (.plain (OpenSpec.upto crcLongSpec)) crcLongUptoCard

/-- THE SECOND FORM's CARD OF 'pannierlaw05.CrcTexts'. -/
def crcTextsUptoCard : Claim7 := { stood := { row := crcTextsUptoRow, standIns := [], harness := (true, "6c5d0565f064c73e795bfedc7413259cfdcacdb353970eaf48f239c1e27d347d"), looks := true }, kinds := [], alts := [], laidByText := true, laidKinds := [.data, .data, .data, .sentinel, .sentinel], laidTests := true, laidLooks := .later }
def CrcTextsUptoCardSaid : Prop := Claim7.holds Tryd.pinned (.plain (OpenSpec.upto crcTextsSpec)) crcTextsUptoCard

/-- THE SECOND FORM's CARD OF 'pannierlaw05.CrcHolds'. -/
def crcHoldsUptoCard : Claim7 := { stood := { row := crcHoldsUptoRow, standIns := [], harness := (true, "6c5d0565f064c73e795bfedc7413259cfdcacdb353970eaf48f239c1e27d347d"), looks := true }, kinds := [], alts := [], laidByText := true, laidKinds := [.data, .data, .data, .sentinel, .sentinel], laidTests := true, laidLooks := .later }
def CrcHoldsUptoCardSaid : Prop := Claim7.holds Tryd.pinned (.plain (OpenSpec.upto crcHoldsSpec)) crcHoldsUptoCard
end Rows
end Go.Proofs.YtcfmdkmpjmblpaaDoor
