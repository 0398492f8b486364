/-
  DERIVED. GIVEN WITH THE SEED: THE CARDS: each row of YtlgjaminfabchaaGreatDoorRows.lean that lists a variable, with what it lists TIED to the program's text (the seventh form; the later family's looks); each row that meets fmt, with fmt's text TOLD by the authors' own Lean function (tested against real Go, not proved from fmt's source: count such statements apart). THE CARD IS WHAT COUNTS. Prove the row's statement (the work); the ties are given (YtlgjaminfabchaaGreatDoorTie.lean); close each card by the builder's one call (the guide's Derived/Test/ToyasCard.lean, 'card_holds'). Laid BY PROGRAM, IN A SANDBOX (cutbox-door.mjs). By AI agents, Wed Nov 11 2026. No macro, syntax, notation, axiom, sorry.
-/
import Derived.Test.YtlgjaminfabchaaGreatDoorRows
import GoSem.ClaimSeven
namespace Go.Proofs.YtlgjaminfabchaaGreatDoor
namespace Rows

/-- THE TIED CARD OF 'pannierlaw40.DigestOf'. -/
def digestOfCard : Claim7 := { stood := { row := digestOfRow, standIns := [], harness := (true, "7d953eef4197c0d1680889d83d1c4be29614eb879ee9260dd3a8a4c47d0ba283"), looks := false }, kinds := [], alts := [], laidByText := true, laidKinds := [.data, .data, .pinned], laidTests := true, laidLooks := .later }
def DigestOfCardSaid : Prop := Claim7.holds Tryz.pinned (.plain (OpenSpec.ofChange digestOfSpec)) digestOfCard

/-- THE TIED CARD OF 'pannierlaw40.DigestKeys'. -/
def digestKeysCard : Claim7 := { stood := { row := digestKeysRow, standIns := [], harness := (true, "7d953eef4197c0d1680889d83d1c4be29614eb879ee9260dd3a8a4c47d0ba283"), looks := false }, kinds := [], alts := [], laidByText := true, laidKinds := [.data, .data, .pinned], laidTests := true, laidLooks := .later }
def DigestKeysCardSaid : Prop := Claim7.holds Tryz.pinned (.plain (OpenSpec.ofChange digestKeysSpec)) digestKeysCard

/-- THE TIED CARD OF 'pannierlaw40.DigestSyncs'. -/
def digestSyncsCard : Claim7 := { stood := { row := digestSyncsRow, standIns := [], harness := (true, "7d953eef4197c0d1680889d83d1c4be29614eb879ee9260dd3a8a4c47d0ba283"), looks := false }, kinds := [], alts := [], laidByText := true, laidKinds := [.data, .data, .pinned], laidTests := true, laidLooks := .later }
def DigestSyncsCardSaid : Prop := Claim7.holds Tryz.pinned (.plain (OpenSpec.ofChange digestSyncsSpec)) digestSyncsCard

/-- THE TIED CARD OF 'pannierlaw40.DigestFulls'. -/
def digestFullsCard : Claim7 := { stood := { row := digestFullsRow, standIns := [], harness := (true, "7d953eef4197c0d1680889d83d1c4be29614eb879ee9260dd3a8a4c47d0ba283"), looks := false }, kinds := [], alts := [], laidByText := true, laidKinds := [.data, .data, .pinned], laidTests := true, laidLooks := .later }
def DigestFullsCardSaid : Prop := Claim7.holds Tryz.pinned (.plain (OpenSpec.ofChange digestFullsSpec)) digestFullsCard

/-- THE TIED CARD OF 'pannierlaw40.DigestHolds'. -/
def digestHoldsCard : Claim7 := { stood := { row := digestHoldsRow, standIns := [], harness := (true, "7d953eef4197c0d1680889d83d1c4be29614eb879ee9260dd3a8a4c47d0ba283"), looks := false }, kinds := [], alts := [], laidByText := true, laidKinds := [.data, .data, .pinned], laidTests := true, laidLooks := .later }
def DigestHoldsCardSaid : Prop := Claim7.holds Tryz.pinned (.plain (OpenSpec.ofChange digestHoldsSpec)) digestHoldsCard

/-- THE SECOND FORM's CARD OF 'pannierlaw40.DigestOf'. -/
def digestOfUptoCard : Claim7 := { stood := { row := digestOfUptoRow, standIns := [], harness := (true, "7d953eef4197c0d1680889d83d1c4be29614eb879ee9260dd3a8a4c47d0ba283"), looks := false }, kinds := [], alts := [], laidByText := true, laidKinds := [.data, .data, .pinned], laidTests := true, laidLooks := .later }
def DigestOfUptoCardSaid : Prop := Claim7.holds Tryz.pinned (.plain (OpenSpec.upto digestOfSpec)) digestOfUptoCard

/-- THE SECOND FORM's CARD OF 'pannierlaw40.DigestKeys'. -/
def digestKeysUptoCard : Claim7 := { stood := { row := digestKeysUptoRow, standIns := [], harness := (true, "7d953eef4197c0d1680889d83d1c4be29614eb879ee9260dd3a8a4c47d0ba283"), looks := false }, kinds := [], alts := [], laidByText := true, laidKinds := [.data, .data, .pinned], laidTests := true, laidLooks := .later }
def DigestKeysUptoCardSaid : Prop := Claim7.holds Tryz.pinned (.plain (OpenSpec.upto digestKeysSpec)) digestKeysUptoCard

/-- THE SECOND FORM's CARD OF 'pannierlaw40.DigestSyncs'. -/
def digestSyncsUptoCard : Claim7 := { stood := { row := digestSyncsUptoRow, standIns := [], harness := (true, "7d953eef4197c0d1680889d83d1c4be29614eb879ee9260dd3a8a4c47d0ba283"), looks := false }, kinds := [], alts := [], laidByText := true, laidKinds := [.data, .data, .pinned], laidTests := true, laidLooks := .later }
def DigestSyncsUptoCardSaid : Prop := Claim7.holds Tryz.pinned (.plain (OpenSpec.upto digestSyncsSpec)) digestSyncsUptoCard

/-- THE SECOND FORM's CARD OF 'pannierlaw40.DigestFulls'. -/
def digestFullsUptoCard : Claim7 := { stood := { row := digestFullsUptoRow, standIns := [], harness := (true, "7d953eef4197c0d1680889d83d1c4be29614eb879ee9260dd3a8a4c47d0ba283"), looks := false }, kinds := [], alts := [], laidByText := true, laidKinds := [.data, .data, .pinned], laidTests := true, laidLooks := .later }
def DigestFullsUptoCardSaid : Prop := Claim7.holds Tryz.pinned (.plain (OpenSpec.upto digestFullsSpec)) digestFullsUptoCard

/-- THE SECOND FORM's CARD OF 'pannierlaw40.DigestHolds'. -/
def digestHoldsUptoCard : Claim7 := { stood := { row := digestHoldsUptoRow, standIns := [], harness := (true, "7d953eef4197c0d1680889d83d1c4be29614eb879ee9260dd3a8a4c47d0ba283"), looks := false }, kinds := [], alts := [], laidByText := true, laidKinds := [.data, .data, .pinned], laidTests := true, laidLooks := .later }
def DigestHoldsUptoCardSaid : Prop := Claim7.holds Tryz.pinned (.plain (OpenSpec.upto digestHoldsSpec)) digestHoldsUptoCard
end Rows
end Go.Proofs.YtlgjaminfabchaaGreatDoor
