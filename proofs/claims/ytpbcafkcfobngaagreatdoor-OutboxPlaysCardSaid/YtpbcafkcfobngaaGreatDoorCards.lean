/-
  DERIVED. GIVEN WITH THE SEED: THE CARDS: each row of YtpbcafkcfobngaaGreatDoorRows.lean that lists a variable, with what it lists TIED to the program's text (the seventh form; the later family's looks); each row that meets fmt, with fmt's text TOLD by the authors' own Lean function (tested against real Go, not proved from fmt's source: count such statements apart). THE CARD IS WHAT COUNTS. Prove the row's statement (the work); the ties are given (YtpbcafkcfobngaaGreatDoorTie.lean); close each card by the builder's one call (the guide's Derived/Test/ToyasCard.lean, 'card_holds'). Laid BY PROGRAM, IN A SANDBOX (cutbox-door.mjs). By AI agents, Wed Nov 11 2026. No macro, syntax, notation, axiom, sorry.
-/
import Derived.Test.YtpbcafkcfobngaaGreatDoorRows
import GoSem.ClaimSeven
namespace Go.Proofs.YtpbcafkcfobngaaGreatDoor
namespace Rows

/-- THE TIED CARD OF 'pannierlaw16.BatchEncodes'. -/
def batchEncodesCard : Claim7 := { stood := { row := batchEncodesRow, standIns := [], harness := (true, "ea7b5f51abf152b7d6a5b76c81f32e4df143959e135eeef93b60e886e6269f6c"), looks := true }, kinds := [], alts := [], laidByText := true, laidKinds := [.data, .pinned], laidTests := true, laidLooks := .later }
def BatchEncodesCardSaid : Prop := Claim7.holds Tryz.pinned (.plain (OpenSpec.ofChange batchEncodesSpec)) batchEncodesCard

/-- THE TIED CARD OF 'pannierlaw16.BatchDecodes'. -/
def batchDecodesCard : Claim7 := { stood := { row := batchDecodesRow, standIns := [], harness := (true, "ea7b5f51abf152b7d6a5b76c81f32e4df143959e135eeef93b60e886e6269f6c"), looks := true }, kinds := [], alts := [], laidByText := true, laidKinds := [.data, .pinned], laidTests := true, laidLooks := .later }
def BatchDecodesCardSaid : Prop := Claim7.holds Tryz.pinned (.plain (OpenSpec.ofChange batchDecodesSpec)) batchDecodesCard

/-- THE TIED CARD OF 'pannierlaw16.BatchSpoilt'. -/
def batchSpoiltCard : Claim7 := { stood := { row := batchSpoiltRow, standIns := [], harness := (true, "ea7b5f51abf152b7d6a5b76c81f32e4df143959e135eeef93b60e886e6269f6c"), looks := true }, kinds := [], alts := [], laidByText := true, laidKinds := [.data, .pinned], laidTests := true, laidLooks := .later }
def BatchSpoiltCardSaid : Prop := Claim7.holds Tryz.pinned (.plain (OpenSpec.ofChange batchSpoiltSpec)) batchSpoiltCard

/-- THE TIED CARD OF 'pannierlaw16.BatchSplits'. -/
def batchSplitsCard : Claim7 := { stood := { row := batchSplitsRow, standIns := [], harness := (true, "ea7b5f51abf152b7d6a5b76c81f32e4df143959e135eeef93b60e886e6269f6c"), looks := true }, kinds := [], alts := [], laidByText := true, laidKinds := [.data, .pinned], laidTests := true, laidLooks := .later }
def BatchSplitsCardSaid : Prop := Claim7.holds Tryz.pinned (.plain (OpenSpec.ofChange batchSplitsSpec)) batchSplitsCard

/-- THE TIED CARD OF 'pannierlaw16.BatchMany'. -/
def batchManyCard : Claim7 := { stood := { row := batchManyRow, standIns := [], harness := (true, "ea7b5f51abf152b7d6a5b76c81f32e4df143959e135eeef93b60e886e6269f6c"), looks := true }, kinds := [], alts := [], laidByText := true, laidKinds := [.data, .pinned], laidTests := true, laidLooks := .later }
def BatchManyCardSaid : Prop := Claim7.holds Tryz.pinned (.plain (OpenSpec.ofChange batchManySpec)) batchManyCard

/-- THE TIED CARD OF 'pannierlaw16.BatchMerges'. -/
def batchMergesCard : Claim7 := { stood := { row := batchMergesRow, standIns := [], harness := (true, "ea7b5f51abf152b7d6a5b76c81f32e4df143959e135eeef93b60e886e6269f6c"), looks := true }, kinds := [], alts := [], laidByText := true, laidKinds := [.data, .pinned], laidTests := true, laidLooks := .later }
def BatchMergesCardSaid : Prop := Claim7.holds Tryz.pinned (.plain (OpenSpec.ofChange batchMergesSpec)) batchMergesCard

/-- THE TIED CARD OF 'pannierlaw16.BatchHolds'. -/
def batchHoldsCard : Claim7 := { stood := { row := batchHoldsRow, standIns := [], harness := (true, "ea7b5f51abf152b7d6a5b76c81f32e4df143959e135eeef93b60e886e6269f6c"), looks := true }, kinds := [], alts := [], laidByText := true, laidKinds := [.data, .pinned], laidTests := true, laidLooks := .later }
def BatchHoldsCardSaid : Prop := Claim7.holds Tryz.pinned (.plain (OpenSpec.ofChange batchHoldsSpec)) batchHoldsCard

/-- THE TIED CARD OF 'pannierlaw21.OutboxNil'. -/
def outboxNilCard : Claim7 := { stood := { row := outboxNilRow, standIns := [], harness := (true, "ea7b5f51abf152b7d6a5b76c81f32e4df143959e135eeef93b60e886e6269f6c"), looks := true }, kinds := [], alts := [], laidByText := true, laidKinds := [.data, .pinned], laidTests := true, laidLooks := .later }
def OutboxNilCardSaid : Prop := Claim7.holds Tryz.pinned (.plain (OpenSpec.ofChange outboxNilSpec)) outboxNilCard

/-- THE TIED CARD OF 'pannierlaw21.OutboxHolds'. -/
def outboxHoldsCard : Claim7 := { stood := { row := outboxHoldsRow, standIns := [], harness := (true, "ea7b5f51abf152b7d6a5b76c81f32e4df143959e135eeef93b60e886e6269f6c"), looks := true }, kinds := [], alts := [], laidByText := true, laidKinds := [.data, .pinned], laidTests := true, laidLooks := .later }
def OutboxHoldsCardSaid : Prop := Claim7.holds Tryz.pinned (.plain (OpenSpec.ofChange outboxHoldsSpec)) outboxHoldsCard

/-- THE TIED CARD OF 'pannierlaw21.OutboxNew'. -/
def outboxNewCard : Claim7 := { stood := { row := outboxNewRow, standIns := [], harness := (true, "ea7b5f51abf152b7d6a5b76c81f32e4df143959e135eeef93b60e886e6269f6c"), looks := true }, kinds := [], alts := [], laidByText := true, laidKinds := [.data, .pinned], laidTests := true, laidLooks := .later }
def OutboxNewCardSaid : Prop := Claim7.holds Tryz.pinned (.plain (OpenSpec.ofChange outboxNewSpec)) outboxNewCard

/-- THE TIED CARD OF 'pannierlaw21.OutboxFulls'. -/
def outboxFullsCard : Claim7 := { stood := { row := outboxFullsRow, standIns := [], harness := (true, "ea7b5f51abf152b7d6a5b76c81f32e4df143959e135eeef93b60e886e6269f6c"), looks := true }, kinds := [], alts := [], laidByText := true, laidKinds := [.data, .pinned], laidTests := true, laidLooks := .later }
def OutboxFullsCardSaid : Prop := Claim7.holds Tryz.pinned (.plain (OpenSpec.ofChange outboxFullsSpec)) outboxFullsCard

/-- THE TIED CARD OF 'pannierlaw21.OutboxPlays'. -/
def outboxPlaysCard : Claim7 := { stood := { row := outboxPlaysRow, standIns := [], harness := (true, "ea7b5f51abf152b7d6a5b76c81f32e4df143959e135eeef93b60e886e6269f6c"), looks := true }, kinds := [], alts := [], laidByText := true, laidKinds := [.data, .pinned], laidTests := true, laidLooks := .later }
def OutboxPlaysCardSaid : Prop := Claim7.holds Tryz.pinned (.plain (OpenSpec.ofChange outboxPlaysSpec)) outboxPlaysCard

/-- THE SECOND FORM's CARD OF 'pannierlaw16.BatchEncodes'. -/
def batchEncodesUptoCard : Claim7 := { stood := { row := batchEncodesUptoRow, standIns := [], harness := (true, "ea7b5f51abf152b7d6a5b76c81f32e4df143959e135eeef93b60e886e6269f6c"), looks := true }, kinds := [], alts := [], laidByText := true, laidKinds := [.data, .pinned], laidTests := true, laidLooks := .later }
def BatchEncodesUptoCardSaid : Prop := Claim7.holds Tryz.pinned (.plain (OpenSpec.upto batchEncodesSpec)) batchEncodesUptoCard

/-- THE SECOND FORM's CARD OF 'pannierlaw16.BatchDecodes'. -/
def batchDecodesUptoCard : Claim7 := { stood := { row := batchDecodesUptoRow, standIns := [], harness := (true, "ea7b5f51abf152b7d6a5b76c81f32e4df143959e135eeef93b60e886e6269f6c"), looks := true }, kinds := [], alts := [], laidByText := true, laidKinds := [.data, .pinned], laidTests := true, laidLooks := .later }
def BatchDecodesUptoCardSaid : Prop := Claim7.holds Tryz.pinned (.plain (OpenSpec.upto batchDecodesSpec)) batchDecodesUptoCard

/-- THE SECOND FORM's CARD OF 'pannierlaw16.BatchSpoilt'. -/
def batchSpoiltUptoCard : Claim7 := { stood := { row := batchSpoiltUptoRow, standIns := [], harness := (true, "ea7b5f51abf152b7d6a5b76c81f32e4df143959e135eeef93b60e886e6269f6c"), looks := true }, kinds := [], alts := [], laidByText := true, laidKinds := [.data, .pinned], laidTests := true, laidLooks := .later }
def BatchSpoiltUptoCardSaid : Prop := Claim7.holds Tryz.pinned (.plain (OpenSpec.upto batchSpoiltSpec)) batchSpoiltUptoCard

/-- THE SECOND FORM's CARD OF 'pannierlaw16.BatchSplits'. -/
def batchSplitsUptoCard : Claim7 := { stood := { row := batchSplitsUptoRow, standIns := [], harness := (true, "ea7b5f51abf152b7d6a5b76c81f32e4df143959e135eeef93b60e886e6269f6c"), looks := true }, kinds := [], alts := [], laidByText := true, laidKinds := [.data, .pinned], laidTests := true, laidLooks := .later }
def BatchSplitsUptoCardSaid : Prop := Claim7.holds Tryz.pinned (.plain (OpenSpec.upto batchSplitsSpec)) batchSplitsUptoCard

/-- THE SECOND FORM's CARD OF 'pannierlaw16.BatchMany'. -/
def batchManyUptoCard : Claim7 := { stood := { row := batchManyUptoRow, standIns := [], harness := (true, "ea7b5f51abf152b7d6a5b76c81f32e4df143959e135eeef93b60e886e6269f6c"), looks := true }, kinds := [], alts := [], laidByText := true, laidKinds := [.data, .pinned], laidTests := true, laidLooks := .later }
def BatchManyUptoCardSaid : Prop := Claim7.holds Tryz.pinned (.plain (OpenSpec.upto batchManySpec)) batchManyUptoCard

/-- THE SECOND FORM's CARD OF 'pannierlaw16.BatchMerges'. -/
def batchMergesUptoCard : Claim7 := { stood := { row := batchMergesUptoRow, standIns := [], harness := (true, "ea7b5f51abf152b7d6a5b76c81f32e4df143959e135eeef93b60e886e6269f6c"), looks := true }, kinds := [], alts := [], laidByText := true, laidKinds := [.data, .pinned], laidTests := true, laidLooks := .later }
def BatchMergesUptoCardSaid : Prop := Claim7.holds Tryz.pinned (.plain (OpenSpec.upto batchMergesSpec)) batchMergesUptoCard

/-- THE SECOND FORM's CARD OF 'pannierlaw16.BatchHolds'. -/
def batchHoldsUptoCard : Claim7 := { stood := { row := batchHoldsUptoRow, standIns := [], harness := (true, "ea7b5f51abf152b7d6a5b76c81f32e4df143959e135eeef93b60e886e6269f6c"), looks := true }, kinds := [], alts := [], laidByText := true, laidKinds := [.data, .pinned], laidTests := true, laidLooks := .later }
def BatchHoldsUptoCardSaid : Prop := Claim7.holds Tryz.pinned (.plain (OpenSpec.upto batchHoldsSpec)) batchHoldsUptoCard

/-- THE SECOND FORM's CARD OF 'pannierlaw21.OutboxNil'. -/
def outboxNilUptoCard : Claim7 := { stood := { row := outboxNilUptoRow, standIns := [], harness := (true, "ea7b5f51abf152b7d6a5b76c81f32e4df143959e135eeef93b60e886e6269f6c"), looks := true }, kinds := [], alts := [], laidByText := true, laidKinds := [.data, .pinned], laidTests := true, laidLooks := .later }
def OutboxNilUptoCardSaid : Prop := Claim7.holds Tryz.pinned (.plain (OpenSpec.upto outboxNilSpec)) outboxNilUptoCard

/-- THE SECOND FORM's CARD OF 'pannierlaw21.OutboxHolds'. -/
def outboxHoldsUptoCard : Claim7 := { stood := { row := outboxHoldsUptoRow, standIns := [], harness := (true, "ea7b5f51abf152b7d6a5b76c81f32e4df143959e135eeef93b60e886e6269f6c"), looks := true }, kinds := [], alts := [], laidByText := true, laidKinds := [.data, .pinned], laidTests := true, laidLooks := .later }
def OutboxHoldsUptoCardSaid : Prop := Claim7.holds Tryz.pinned (.plain (OpenSpec.upto outboxHoldsSpec)) outboxHoldsUptoCard

/-- THE SECOND FORM's CARD OF 'pannierlaw21.OutboxNew'. -/
def outboxNewUptoCard : Claim7 := { stood := { row := outboxNewUptoRow, standIns := [], harness := (true, "ea7b5f51abf152b7d6a5b76c81f32e4df143959e135eeef93b60e886e6269f6c"), looks := true }, kinds := [], alts := [], laidByText := true, laidKinds := [.data, .pinned], laidTests := true, laidLooks := .later }
def OutboxNewUptoCardSaid : Prop := Claim7.holds Tryz.pinned (.plain (OpenSpec.upto outboxNewSpec)) outboxNewUptoCard

/-- THE SECOND FORM's CARD OF 'pannierlaw21.OutboxFulls'. -/
def outboxFullsUptoCard : Claim7 := { stood := { row := outboxFullsUptoRow, standIns := [], harness := (true, "ea7b5f51abf152b7d6a5b76c81f32e4df143959e135eeef93b60e886e6269f6c"), looks := true }, kinds := [], alts := [], laidByText := true, laidKinds := [.data, .pinned], laidTests := true, laidLooks := .later }
def OutboxFullsUptoCardSaid : Prop := Claim7.holds Tryz.pinned (.plain (OpenSpec.upto outboxFullsSpec)) outboxFullsUptoCard

/-- THE SECOND FORM's CARD OF 'pannierlaw21.OutboxPlays'. -/
def outboxPlaysUptoCard : Claim7 := { stood := { row := outboxPlaysUptoRow, standIns := [], harness := (true, "ea7b5f51abf152b7d6a5b76c81f32e4df143959e135eeef93b60e886e6269f6c"), looks := true }, kinds := [], alts := [], laidByText := true, laidKinds := [.data, .pinned], laidTests := true, laidLooks := .later }
def OutboxPlaysUptoCardSaid : Prop := Claim7.holds Tryz.pinned (.plain (OpenSpec.upto outboxPlaysSpec)) outboxPlaysUptoCard
end Rows
end Go.Proofs.YtpbcafkcfobngaaGreatDoor
