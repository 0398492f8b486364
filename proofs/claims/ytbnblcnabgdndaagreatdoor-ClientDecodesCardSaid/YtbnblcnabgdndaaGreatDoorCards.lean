/-
  DERIVED. GIVEN WITH THE SEED: THE CARDS: each row of YtbnblcnabgdndaaGreatDoorRows.lean that lists a variable, with what it lists TIED to the program's text (the seventh form; the later family's looks); each row that meets fmt, with fmt's text TOLD by the authors' own Lean function (tested against real Go, not proved from fmt's source: count such statements apart). THE CARD IS WHAT COUNTS. Prove the row's statement (the work); the ties are given (YtbnblcnabgdndaaGreatDoorTie.lean); close each card by the builder's one call (the guide's Derived/Test/ToyasCard.lean, 'card_holds'). Laid BY PROGRAM, IN A SANDBOX (cutbox-door.mjs). By AI agents, Wed Nov 11 2026. No macro, syntax, notation, axiom, sorry.
-/
import Derived.Test.YtbnblcnabgdndaaGreatDoorRows
import GoSem.ClaimSeven
namespace Go.Proofs.YtbnblcnabgdndaaGreatDoor
namespace Rows

/-- THE TIED CARD OF 'pannierlaw25.ClientTexts'. -/
def clientTextsCard : Claim7 := { stood := { row := clientTextsRow, standIns := [], harness := (true, "4f08467a69d4d7065700a7e19e950442f8e118d30cac93e9cbc7d8831af1bfd3"), looks := true }, kinds := [], alts := [], laidByText := true, laidKinds := [.data, .data, .data, .data, .sentinel, .sentinel, .data, .pinned], laidTests := true, laidLooks := .later }
def ClientTextsCardSaid : Prop := Claim7.holds Tryz.pinned (.plain (OpenSpec.ofChange clientTextsSpec)) clientTextsCard

/-- THE TIED CARD OF 'pannierlaw25.ClientParses'. -/
def clientParsesCard : Claim7 := { stood := { row := clientParsesRow, standIns := [], harness := (true, "4f08467a69d4d7065700a7e19e950442f8e118d30cac93e9cbc7d8831af1bfd3"), looks := true }, kinds := [], alts := [], laidByText := true, laidKinds := [.data, .data, .data, .data, .sentinel, .sentinel, .data, .pinned], laidTests := true, laidLooks := .later }
def ClientParsesCardSaid : Prop := Claim7.holds Tryz.pinned (.plain (OpenSpec.ofChange clientParsesSpec)) clientParsesCard

/-- THE TIED CARD OF 'pannierlaw25.ClientDecodes'. -/
def clientDecodesCard : Claim7 := { stood := { row := clientDecodesRow, standIns := [], harness := (true, "4f08467a69d4d7065700a7e19e950442f8e118d30cac93e9cbc7d8831af1bfd3"), looks := true }, kinds := [], alts := [], laidByText := true, laidKinds := [.data, .data, .data, .data, .sentinel, .sentinel, .data, .pinned], laidTests := true, laidLooks := .later }
def ClientDecodesCardSaid : Prop := Claim7.holds Tryz.pinned (.plain (OpenSpec.ofChange clientDecodesSpec)) clientDecodesCard

/-- THE TIED CARD OF 'pannierlaw25.ClientReads'. -/
def clientReadsCard : Claim7 := { stood := { row := clientReadsRow, standIns := [], harness := (true, "4f08467a69d4d7065700a7e19e950442f8e118d30cac93e9cbc7d8831af1bfd3"), looks := true }, kinds := [], alts := [], laidByText := true, laidKinds := [.data, .data, .data, .data, .sentinel, .sentinel, .data, .pinned], laidTests := true, laidLooks := .later }
def ClientReadsCardSaid : Prop := Claim7.holds Tryz.pinned (.plain (OpenSpec.ofChange clientReadsSpec)) clientReadsCard

/-- THE TIED CARD OF 'pannierlaw25.ClientLongs'. -/
def clientLongsCard : Claim7 := { stood := { row := clientLongsRow, standIns := [], harness := (true, "4f08467a69d4d7065700a7e19e950442f8e118d30cac93e9cbc7d8831af1bfd3"), looks := true }, kinds := [], alts := [], laidByText := true, laidKinds := [.data, .data, .data, .data, .sentinel, .sentinel, .data, .pinned], laidTests := true, laidLooks := .later }
def ClientLongsCardSaid : Prop := Claim7.holds Tryz.pinned (.plain (OpenSpec.ofChange clientLongsSpec)) clientLongsCard

/-- THE TIED CARD OF 'pannierlaw25.ClientHolds'. -/
def clientHoldsCard : Claim7 := { stood := { row := clientHoldsRow, standIns := [], harness := (true, "4f08467a69d4d7065700a7e19e950442f8e118d30cac93e9cbc7d8831af1bfd3"), looks := true }, kinds := [], alts := [], laidByText := true, laidKinds := [.data, .data, .data, .data, .sentinel, .sentinel, .data, .pinned], laidTests := true, laidLooks := .later }
def ClientHoldsCardSaid : Prop := Claim7.holds Tryz.pinned (.plain (OpenSpec.ofChange clientHoldsSpec)) clientHoldsCard

/-- THE TIED CARD OF 'pannierlaw25.ClientAnswers'. -/
def clientAnswersCard : Claim7 := { stood := { row := clientAnswersRow, standIns := [], harness := (true, "4f08467a69d4d7065700a7e19e950442f8e118d30cac93e9cbc7d8831af1bfd3"), looks := true }, kinds := [], alts := [], laidByText := true, laidKinds := [.data, .data, .data, .data, .sentinel, .sentinel, .data, .pinned], laidTests := true, laidLooks := .later }
def ClientAnswersCardSaid : Prop := Claim7.holds Tryz.pinned (.plain (OpenSpec.ofChange clientAnswersSpec)) clientAnswersCard

/-- THE SECOND FORM's CARD OF 'pannierlaw25.ClientTexts'. -/
def clientTextsUptoCard : Claim7 := { stood := { row := clientTextsUptoRow, standIns := [], harness := (true, "4f08467a69d4d7065700a7e19e950442f8e118d30cac93e9cbc7d8831af1bfd3"), looks := true }, kinds := [], alts := [], laidByText := true, laidKinds := [.data, .data, .data, .data, .sentinel, .sentinel, .data, .pinned], laidTests := true, laidLooks := .later }
def ClientTextsUptoCardSaid : Prop := Claim7.holds Tryz.pinned (.plain (OpenSpec.upto clientTextsSpec)) clientTextsUptoCard

/-- THE SECOND FORM's CARD OF 'pannierlaw25.ClientParses'. -/
def clientParsesUptoCard : Claim7 := { stood := { row := clientParsesUptoRow, standIns := [], harness := (true, "4f08467a69d4d7065700a7e19e950442f8e118d30cac93e9cbc7d8831af1bfd3"), looks := true }, kinds := [], alts := [], laidByText := true, laidKinds := [.data, .data, .data, .data, .sentinel, .sentinel, .data, .pinned], laidTests := true, laidLooks := .later }
def ClientParsesUptoCardSaid : Prop := Claim7.holds Tryz.pinned (.plain (OpenSpec.upto clientParsesSpec)) clientParsesUptoCard

/-- THE SECOND FORM's CARD OF 'pannierlaw25.ClientDecodes'. -/
def clientDecodesUptoCard : Claim7 := { stood := { row := clientDecodesUptoRow, standIns := [], harness := (true, "4f08467a69d4d7065700a7e19e950442f8e118d30cac93e9cbc7d8831af1bfd3"), looks := true }, kinds := [], alts := [], laidByText := true, laidKinds := [.data, .data, .data, .data, .sentinel, .sentinel, .data, .pinned], laidTests := true, laidLooks := .later }
def ClientDecodesUptoCardSaid : Prop := Claim7.holds Tryz.pinned (.plain (OpenSpec.upto clientDecodesSpec)) clientDecodesUptoCard

/-- THE SECOND FORM's CARD OF 'pannierlaw25.ClientReads'. -/
def clientReadsUptoCard : Claim7 := { stood := { row := clientReadsUptoRow, standIns := [], harness := (true, "4f08467a69d4d7065700a7e19e950442f8e118d30cac93e9cbc7d8831af1bfd3"), looks := true }, kinds := [], alts := [], laidByText := true, laidKinds := [.data, .data, .data, .data, .sentinel, .sentinel, .data, .pinned], laidTests := true, laidLooks := .later }
def ClientReadsUptoCardSaid : Prop := Claim7.holds Tryz.pinned (.plain (OpenSpec.upto clientReadsSpec)) clientReadsUptoCard

/-- THE SECOND FORM's CARD OF 'pannierlaw25.ClientLongs'. -/
def clientLongsUptoCard : Claim7 := { stood := { row := clientLongsUptoRow, standIns := [], harness := (true, "4f08467a69d4d7065700a7e19e950442f8e118d30cac93e9cbc7d8831af1bfd3"), looks := true }, kinds := [], alts := [], laidByText := true, laidKinds := [.data, .data, .data, .data, .sentinel, .sentinel, .data, .pinned], laidTests := true, laidLooks := .later }
def ClientLongsUptoCardSaid : Prop := Claim7.holds Tryz.pinned (.plain (OpenSpec.upto clientLongsSpec)) clientLongsUptoCard

/-- THE SECOND FORM's CARD OF 'pannierlaw25.ClientHolds'. -/
def clientHoldsUptoCard : Claim7 := { stood := { row := clientHoldsUptoRow, standIns := [], harness := (true, "4f08467a69d4d7065700a7e19e950442f8e118d30cac93e9cbc7d8831af1bfd3"), looks := true }, kinds := [], alts := [], laidByText := true, laidKinds := [.data, .data, .data, .data, .sentinel, .sentinel, .data, .pinned], laidTests := true, laidLooks := .later }
def ClientHoldsUptoCardSaid : Prop := Claim7.holds Tryz.pinned (.plain (OpenSpec.upto clientHoldsSpec)) clientHoldsUptoCard

/-- THE SECOND FORM's CARD OF 'pannierlaw25.ClientAnswers'. -/
def clientAnswersUptoCard : Claim7 := { stood := { row := clientAnswersUptoRow, standIns := [], harness := (true, "4f08467a69d4d7065700a7e19e950442f8e118d30cac93e9cbc7d8831af1bfd3"), looks := true }, kinds := [], alts := [], laidByText := true, laidKinds := [.data, .data, .data, .data, .sentinel, .sentinel, .data, .pinned], laidTests := true, laidLooks := .later }
def ClientAnswersUptoCardSaid : Prop := Claim7.holds Tryz.pinned (.plain (OpenSpec.upto clientAnswersSpec)) clientAnswersUptoCard
end Rows
end Go.Proofs.YtbnblcnabgdndaaGreatDoor
