/-
  DERIVED. GIVEN WITH THE SEED: THE CARDS: each row of YtnkcmaoaagnopaaGreatDoorRows.lean that lists a variable, with what it lists TIED to the program's text (the seventh form; the later family's looks); each row that meets fmt, with fmt's text TOLD by the authors' own Lean function (tested against real Go, not proved from fmt's source: count such statements apart). THE CARD IS WHAT COUNTS. Prove the row's statement (the work); the ties are given (YtnkcmaoaagnopaaGreatDoorTie.lean); close each card by the builder's one call (the guide's Derived/Test/ToyasCard.lean, 'card_holds'). Laid BY PROGRAM, IN A SANDBOX (cutbox-door.mjs). By AI agents, Wed Nov 11 2026. No macro, syntax, notation, axiom, sorry.
-/
import Derived.Test.YtnkcmaoaagnopaaGreatDoorRows
import GoSem.ClaimSeven
namespace Go.Proofs.YtnkcmaoaagnopaaGreatDoor
namespace Rows

/-- THE TIED CARD OF 'pannierlaw14.CanonEncodes'. -/
def canonEncodesCard : Claim7 := { stood := { row := canonEncodesRow, standIns := [], harness := (true, "f8cd8c25940be4c95186410b095968ede901773426c38dbb1a5667ced44a5f76"), looks := true }, kinds := [], alts := [], laidByText := true, laidKinds := [.data, .pinned], laidTests := true, laidLooks := .later }
def CanonEncodesCardSaid : Prop := Claim7.holds Tryz.pinned (.plain (OpenSpec.ofChange canonEncodesSpec)) canonEncodesCard

/-- THE TIED CARD OF 'pannierlaw14.CanonAppends'. -/
def canonAppendsCard : Claim7 := { stood := { row := canonAppendsRow, standIns := [], harness := (true, "f8cd8c25940be4c95186410b095968ede901773426c38dbb1a5667ced44a5f76"), looks := true }, kinds := [], alts := [], laidByText := true, laidKinds := [.data, .pinned], laidTests := true, laidLooks := .later }
def CanonAppendsCardSaid : Prop := Claim7.holds Tryz.pinned (.plain (OpenSpec.ofChange canonAppendsSpec)) canonAppendsCard

/-- THE TIED CARD OF 'pannierlaw14.CanonCompares'. -/
def canonComparesCard : Claim7 := { stood := { row := canonComparesRow, standIns := [], harness := (true, "f8cd8c25940be4c95186410b095968ede901773426c38dbb1a5667ced44a5f76"), looks := true }, kinds := [], alts := [], laidByText := true, laidKinds := [.data, .pinned], laidTests := true, laidLooks := .later }
def CanonComparesCardSaid : Prop := Claim7.holds Tryz.pinned (.plain (OpenSpec.ofChange canonComparesSpec)) canonComparesCard

/-- THE TIED CARD OF 'pannierlaw14.CanonLongs'. -/
def canonLongsCard : Claim7 := { stood := { row := canonLongsRow, standIns := [], harness := (true, "f8cd8c25940be4c95186410b095968ede901773426c38dbb1a5667ced44a5f76"), looks := true }, kinds := [], alts := [], laidByText := true, laidKinds := [.data, .pinned], laidTests := true, laidLooks := .later }
def CanonLongsCardSaid : Prop := Claim7.holds Tryz.pinned (.plain (OpenSpec.ofChange canonLongsSpec)) canonLongsCard

/-- THE TIED CARD OF 'pannierlaw14.CanonHolds'. -/
def canonHoldsCard : Claim7 := { stood := { row := canonHoldsRow, standIns := [], harness := (true, "f8cd8c25940be4c95186410b095968ede901773426c38dbb1a5667ced44a5f76"), looks := true }, kinds := [], alts := [], laidByText := true, laidKinds := [.data, .pinned], laidTests := true, laidLooks := .later }
def CanonHoldsCardSaid : Prop := Claim7.holds Tryz.pinned (.plain (OpenSpec.ofChange canonHoldsSpec)) canonHoldsCard

/-- THE TIED CARD OF 'pannierlaw15.DecodeReads'. -/
def decodeReadsCard : Claim7 := { stood := { row := decodeReadsRow, standIns := [], harness := (true, "f8cd8c25940be4c95186410b095968ede901773426c38dbb1a5667ced44a5f76"), looks := true }, kinds := [], alts := [], laidByText := true, laidKinds := [.data, .pinned], laidTests := true, laidLooks := .later }
def DecodeReadsCardSaid : Prop := Claim7.holds Tryz.pinned (.plain (OpenSpec.ofChange decodeReadsSpec)) decodeReadsCard

/-- THE TIED CARD OF 'pannierlaw15.DecodeSpoilt'. -/
def decodeSpoiltCard : Claim7 := { stood := { row := decodeSpoiltRow, standIns := [], harness := (true, "f8cd8c25940be4c95186410b095968ede901773426c38dbb1a5667ced44a5f76"), looks := true }, kinds := [], alts := [], laidByText := true, laidKinds := [.data, .pinned], laidTests := true, laidLooks := .later }
def DecodeSpoiltCardSaid : Prop := Claim7.holds Tryz.pinned (.plain (OpenSpec.ofChange decodeSpoiltSpec)) decodeSpoiltCard

/-- THE TIED CARD OF 'pannierlaw15.DecodeCounts'. -/
def decodeCountsCard : Claim7 := { stood := { row := decodeCountsRow, standIns := [], harness := (true, "f8cd8c25940be4c95186410b095968ede901773426c38dbb1a5667ced44a5f76"), looks := true }, kinds := [], alts := [], laidByText := true, laidKinds := [.data, .pinned], laidTests := true, laidLooks := .later }
def DecodeCountsCardSaid : Prop := Claim7.holds Tryz.pinned (.plain (OpenSpec.ofChange decodeCountsSpec)) decodeCountsCard

/-- THE TIED CARD OF 'pannierlaw15.DecodeGreats'. -/
def decodeGreatsCard : Claim7 := { stood := { row := decodeGreatsRow, standIns := [], harness := (true, "f8cd8c25940be4c95186410b095968ede901773426c38dbb1a5667ced44a5f76"), looks := true }, kinds := [], alts := [], laidByText := true, laidKinds := [.data, .pinned], laidTests := true, laidLooks := .later }
def DecodeGreatsCardSaid : Prop := Claim7.holds Tryz.pinned (.plain (OpenSpec.ofChange decodeGreatsSpec)) decodeGreatsCard

/-- THE TIED CARD OF 'pannierlaw15.DecodeHolds'. -/
def decodeHoldsCard : Claim7 := { stood := { row := decodeHoldsRow, standIns := [], harness := (true, "f8cd8c25940be4c95186410b095968ede901773426c38dbb1a5667ced44a5f76"), looks := true }, kinds := [], alts := [], laidByText := true, laidKinds := [.data, .pinned], laidTests := true, laidLooks := .later }
def DecodeHoldsCardSaid : Prop := Claim7.holds Tryz.pinned (.plain (OpenSpec.ofChange decodeHoldsSpec)) decodeHoldsCard

/-- THE SECOND FORM's CARD OF 'pannierlaw14.CanonEncodes'. -/
def canonEncodesUptoCard : Claim7 := { stood := { row := canonEncodesUptoRow, standIns := [], harness := (true, "f8cd8c25940be4c95186410b095968ede901773426c38dbb1a5667ced44a5f76"), looks := true }, kinds := [], alts := [], laidByText := true, laidKinds := [.data, .pinned], laidTests := true, laidLooks := .later }
def CanonEncodesUptoCardSaid : Prop := Claim7.holds Tryz.pinned (.plain (OpenSpec.upto canonEncodesSpec)) canonEncodesUptoCard

/-- THE SECOND FORM's CARD OF 'pannierlaw14.CanonAppends'. -/
def canonAppendsUptoCard : Claim7 := { stood := { row := canonAppendsUptoRow, standIns := [], harness := (true, "f8cd8c25940be4c95186410b095968ede901773426c38dbb1a5667ced44a5f76"), looks := true }, kinds := [], alts := [], laidByText := true, laidKinds := [.data, .pinned], laidTests := true, laidLooks := .later }
def CanonAppendsUptoCardSaid : Prop := Claim7.holds Tryz.pinned (.plain (OpenSpec.upto canonAppendsSpec)) canonAppendsUptoCard

/-- THE SECOND FORM's CARD OF 'pannierlaw14.CanonCompares'. -/
def canonComparesUptoCard : Claim7 := { stood := { row := canonComparesUptoRow, standIns := [], harness := (true, "f8cd8c25940be4c95186410b095968ede901773426c38dbb1a5667ced44a5f76"), looks := true }, kinds := [], alts := [], laidByText := true, laidKinds := [.data, .pinned], laidTests := true, laidLooks := .later }
def CanonComparesUptoCardSaid : Prop := Claim7.holds Tryz.pinned (.plain (OpenSpec.upto canonComparesSpec)) canonComparesUptoCard

/-- THE SECOND FORM's CARD OF 'pannierlaw14.CanonLongs'. -/
def canonLongsUptoCard : Claim7 := { stood := { row := canonLongsUptoRow, standIns := [], harness := (true, "f8cd8c25940be4c95186410b095968ede901773426c38dbb1a5667ced44a5f76"), looks := true }, kinds := [], alts := [], laidByText := true, laidKinds := [.data, .pinned], laidTests := true, laidLooks := .later }
def CanonLongsUptoCardSaid : Prop := Claim7.holds Tryz.pinned (.plain (OpenSpec.upto canonLongsSpec)) canonLongsUptoCard

/-- THE SECOND FORM's CARD OF 'pannierlaw14.CanonHolds'. -/
def canonHoldsUptoCard : Claim7 := { stood := { row := canonHoldsUptoRow, standIns := [], harness := (true, "f8cd8c25940be4c95186410b095968ede901773426c38dbb1a5667ced44a5f76"), looks := true }, kinds := [], alts := [], laidByText := true, laidKinds := [.data, .pinned], laidTests := true, laidLooks := .later }
def CanonHoldsUptoCardSaid : Prop := Claim7.holds Tryz.pinned (.plain (OpenSpec.upto canonHoldsSpec)) canonHoldsUptoCard

/-- THE SECOND FORM's CARD OF 'pannierlaw15.DecodeReads'. -/
def decodeReadsUptoCard : Claim7 := { stood := { row := decodeReadsUptoRow, standIns := [], harness := (true, "f8cd8c25940be4c95186410b095968ede901773426c38dbb1a5667ced44a5f76"), looks := true }, kinds := [], alts := [], laidByText := true, laidKinds := [.data, .pinned], laidTests := true, laidLooks := .later }
def DecodeReadsUptoCardSaid : Prop := Claim7.holds Tryz.pinned (.plain (OpenSpec.upto decodeReadsSpec)) decodeReadsUptoCard

/-- THE SECOND FORM's CARD OF 'pannierlaw15.DecodeSpoilt'. -/
def decodeSpoiltUptoCard : Claim7 := { stood := { row := decodeSpoiltUptoRow, standIns := [], harness := (true, "f8cd8c25940be4c95186410b095968ede901773426c38dbb1a5667ced44a5f76"), looks := true }, kinds := [], alts := [], laidByText := true, laidKinds := [.data, .pinned], laidTests := true, laidLooks := .later }
def DecodeSpoiltUptoCardSaid : Prop := Claim7.holds Tryz.pinned (.plain (OpenSpec.upto decodeSpoiltSpec)) decodeSpoiltUptoCard

/-- THE SECOND FORM's CARD OF 'pannierlaw15.DecodeCounts'. -/
def decodeCountsUptoCard : Claim7 := { stood := { row := decodeCountsUptoRow, standIns := [], harness := (true, "f8cd8c25940be4c95186410b095968ede901773426c38dbb1a5667ced44a5f76"), looks := true }, kinds := [], alts := [], laidByText := true, laidKinds := [.data, .pinned], laidTests := true, laidLooks := .later }
def DecodeCountsUptoCardSaid : Prop := Claim7.holds Tryz.pinned (.plain (OpenSpec.upto decodeCountsSpec)) decodeCountsUptoCard

/-- THE SECOND FORM's CARD OF 'pannierlaw15.DecodeGreats'. -/
def decodeGreatsUptoCard : Claim7 := { stood := { row := decodeGreatsUptoRow, standIns := [], harness := (true, "f8cd8c25940be4c95186410b095968ede901773426c38dbb1a5667ced44a5f76"), looks := true }, kinds := [], alts := [], laidByText := true, laidKinds := [.data, .pinned], laidTests := true, laidLooks := .later }
def DecodeGreatsUptoCardSaid : Prop := Claim7.holds Tryz.pinned (.plain (OpenSpec.upto decodeGreatsSpec)) decodeGreatsUptoCard

/-- THE SECOND FORM's CARD OF 'pannierlaw15.DecodeHolds'. -/
def decodeHoldsUptoCard : Claim7 := { stood := { row := decodeHoldsUptoRow, standIns := [], harness := (true, "f8cd8c25940be4c95186410b095968ede901773426c38dbb1a5667ced44a5f76"), looks := true }, kinds := [], alts := [], laidByText := true, laidKinds := [.data, .pinned], laidTests := true, laidLooks := .later }
def DecodeHoldsUptoCardSaid : Prop := Claim7.holds Tryz.pinned (.plain (OpenSpec.upto decodeHoldsSpec)) decodeHoldsUptoCard
end Rows
end Go.Proofs.YtnkcmaoaagnopaaGreatDoor
