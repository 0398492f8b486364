/-
  DERIVED. GIVEN WITH THE SEED: THE CARDS: each row of YtbadfphdniliaaaGreatDoorRows.lean that lists a variable, with what it lists TIED to the program's text (the seventh form; the later family's looks); each row that meets fmt, with fmt's text TOLD by the authors' own Lean function (tested against real Go, not proved from fmt's source: count such statements apart). THE CARD IS WHAT COUNTS. Prove the row's statement (the work); the ties are given (YtbadfphdniliaaaGreatDoorTie.lean); close each card by the builder's one call (the guide's Derived/Test/ToyasCard.lean, 'card_holds'). Laid BY PROGRAM, IN A SANDBOX (cutbox-door.mjs). By AI agents, Wed Nov 11 2026. No macro, syntax, notation, axiom, sorry.
-/
import Derived.Test.YtbadfphdniliaaaGreatDoorRows
import GoSem.ClaimSeven
namespace Go.Proofs.YtbadfphdniliaaaGreatDoor
namespace Rows

/-- THE TIED CARD OF 'pannierlaw44.DiscountApplies'. -/
def discountAppliesCard : Claim7 := { stood := { row := discountAppliesRow, standIns := [], harness := (true, "4cea889b73872be9b8c60c414d7eb90a80a019751831c100216260d5de23fb28"), looks := false }, kinds := [], alts := [], laidByText := true, laidKinds := [.data, .pinned], laidTests := true, laidLooks := .later }
def DiscountAppliesCardSaid : Prop := Claim7.holds Tryz.pinned (.plain (OpenSpec.ofChange discountAppliesSpec)) discountAppliesCard

/-- THE TIED CARD OF 'pannierlaw44.DiscountBest'. -/
def discountBestCard : Claim7 := { stood := { row := discountBestRow, standIns := [], harness := (true, "4cea889b73872be9b8c60c414d7eb90a80a019751831c100216260d5de23fb28"), looks := false }, kinds := [], alts := [], laidByText := true, laidKinds := [.data, .pinned], laidTests := true, laidLooks := .later }
def DiscountBestCardSaid : Prop := Claim7.holds Tryz.pinned (.plain (OpenSpec.ofChange discountBestSpec)) discountBestCard

/-- THE TIED CARD OF 'pannierlaw44.DiscountTogether'. -/
def discountTogetherCard : Claim7 := { stood := { row := discountTogetherRow, standIns := [], harness := (true, "4cea889b73872be9b8c60c414d7eb90a80a019751831c100216260d5de23fb28"), looks := false }, kinds := [], alts := [], laidByText := true, laidKinds := [.data, .pinned], laidTests := true, laidLooks := .later }
def DiscountTogetherCardSaid : Prop := Claim7.holds Tryz.pinned (.plain (OpenSpec.ofChange discountTogetherSpec)) discountTogetherCard

/-- THE TIED CARD OF 'pannierlaw44.DiscountMeans'. -/
def discountMeansCard : Claim7 := { stood := { row := discountMeansRow, standIns := [], harness := (true, "4cea889b73872be9b8c60c414d7eb90a80a019751831c100216260d5de23fb28"), looks := false }, kinds := [], alts := [], laidByText := true, laidKinds := [.data, .pinned], laidTests := true, laidLooks := .later }
def DiscountMeansCardSaid : Prop := Claim7.holds Tryz.pinned (.plain (OpenSpec.ofChange discountMeansSpec)) discountMeansCard

/-- THE TIED CARD OF 'pannierlaw44.DiscountHolds'. -/
def discountHoldsCard : Claim7 := { stood := { row := discountHoldsRow, standIns := [], harness := (true, "4cea889b73872be9b8c60c414d7eb90a80a019751831c100216260d5de23fb28"), looks := false }, kinds := [], alts := [], laidByText := true, laidKinds := [.data, .pinned], laidTests := true, laidLooks := .later }
def DiscountHoldsCardSaid : Prop := Claim7.holds Tryz.pinned (.plain (OpenSpec.ofChange discountHoldsSpec)) discountHoldsCard

/-- THE SECOND FORM's CARD OF 'pannierlaw44.DiscountApplies'. -/
def discountAppliesUptoCard : Claim7 := { stood := { row := discountAppliesUptoRow, standIns := [], harness := (true, "4cea889b73872be9b8c60c414d7eb90a80a019751831c100216260d5de23fb28"), looks := false }, kinds := [], alts := [], laidByText := true, laidKinds := [.data, .pinned], laidTests := true, laidLooks := .later }
def DiscountAppliesUptoCardSaid : Prop := Claim7.holds Tryz.pinned (.plain (OpenSpec.upto discountAppliesSpec)) discountAppliesUptoCard

/-- THE SECOND FORM's CARD OF 'pannierlaw44.DiscountBest'. -/
def discountBestUptoCard : Claim7 := { stood := { row := discountBestUptoRow, standIns := [], harness := (true, "4cea889b73872be9b8c60c414d7eb90a80a019751831c100216260d5de23fb28"), looks := false }, kinds := [], alts := [], laidByText := true, laidKinds := [.data, .pinned], laidTests := true, laidLooks := .later }
def DiscountBestUptoCardSaid : Prop := Claim7.holds Tryz.pinned (.plain (OpenSpec.upto discountBestSpec)) discountBestUptoCard

/-- THE SECOND FORM's CARD OF 'pannierlaw44.DiscountTogether'. -/
def discountTogetherUptoCard : Claim7 := { stood := { row := discountTogetherUptoRow, standIns := [], harness := (true, "4cea889b73872be9b8c60c414d7eb90a80a019751831c100216260d5de23fb28"), looks := false }, kinds := [], alts := [], laidByText := true, laidKinds := [.data, .pinned], laidTests := true, laidLooks := .later }
def DiscountTogetherUptoCardSaid : Prop := Claim7.holds Tryz.pinned (.plain (OpenSpec.upto discountTogetherSpec)) discountTogetherUptoCard

/-- THE SECOND FORM's CARD OF 'pannierlaw44.DiscountMeans'. -/
def discountMeansUptoCard : Claim7 := { stood := { row := discountMeansUptoRow, standIns := [], harness := (true, "4cea889b73872be9b8c60c414d7eb90a80a019751831c100216260d5de23fb28"), looks := false }, kinds := [], alts := [], laidByText := true, laidKinds := [.data, .pinned], laidTests := true, laidLooks := .later }
def DiscountMeansUptoCardSaid : Prop := Claim7.holds Tryz.pinned (.plain (OpenSpec.upto discountMeansSpec)) discountMeansUptoCard

/-- THE SECOND FORM's CARD OF 'pannierlaw44.DiscountHolds'. -/
def discountHoldsUptoCard : Claim7 := { stood := { row := discountHoldsUptoRow, standIns := [], harness := (true, "4cea889b73872be9b8c60c414d7eb90a80a019751831c100216260d5de23fb28"), looks := false }, kinds := [], alts := [], laidByText := true, laidKinds := [.data, .pinned], laidTests := true, laidLooks := .later }
def DiscountHoldsUptoCardSaid : Prop := Claim7.holds Tryz.pinned (.plain (OpenSpec.upto discountHoldsSpec)) discountHoldsUptoCard
end Rows
end Go.Proofs.YtbadfphdniliaaaGreatDoor
