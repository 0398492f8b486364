/-
  NARROWER THAN 'FOR EVERY INPUT', by the rows' own cells (each row's printed sentence says how): DigestOf: laid · DigestKeys: laid · DigestSyncs: laid · DigestFulls: laid · DigestHolds: laid.
  DERIVED. THE GIVEN ROWS OF THIS SEAT. 5 by the template 'for every input the law returns true; each argument reads behind the call as it read before'; 0 by the template 'total and deterministic' (their statements: YtlgjaminfabchaaGreatDoorTotals.lean).
  GIVEN WITH THE SEED: the statements are not yours to turn. If you find one false, say at which input.
  Laid BY PROGRAM, IN A SANDBOX (cutbox-rows.mjs): the forced cells as the released guide's own fill.sh prints them over the translation 907f88fc78c669d6… (all of the seat's roots in one cut). By AI agents, Wed Nov 11 2026. No macro, syntax, notation, axiom, sorry.
-/
import Derived.Test.YtlgjaminfabchaaGreatDoorChecked
import GoSem.PinnedTables
import GoSem.Claim
import GoSem.ClaimJoined
import GoSem.ClaimMapViews
import Derived.JoinedTies
import Derived.KernelRfl
namespace Go.Proofs.YtlgjaminfabchaaGreatDoor
/- THE CELL 'sum', in the pinned program and in every row, IS THE sha256 OF THE DUMP (.gsa) THAT YtlgjaminfabchaaGreatDoorProg.lean LOADS. Nothing in Lean hashes anything: it is a label: what it is worth is what the hold of that sum in a sandbox is worth. -/
noncomputable def Tryz.pinned : Pinned := { name := "ytlgjaminfabchaagreatdoor", sum := "907f88fc78c669d68a9b3b5a52eb35bdc9a2f4b3feb0364619793d87f952ebb8", checked := Tryz.checked }
namespace Rows
def none {H : Type} : Left H := { results := [], args := [] }

/- WHAT THE LISTED PACKAGE-LEVEL VARIABLES READ AS WHEN THE CALL BEGINS. Each datum BY PROGRAM (the guide's laid-datum.mjs) off the statement by which the dump's own 'gosem.cut.vars' lays the variable. In a bare row this is a premise. The card (YtlgjaminfabchaaGreatDoorCards.lean) ties it to the program's text. -/
def laid_unicode_utf8_acceptRanges {H : Type} : DataW H := .agg [.agg [.lit (.int .u8 128), .lit (.int .u8 191)], .agg [.lit (.int .u8 160), .lit (.int .u8 191)], .agg [.lit (.int .u8 128), .lit (.int .u8 159)], .agg [.lit (.int .u8 144), .lit (.int .u8 191)], .agg [.lit (.int .u8 128), .lit (.int .u8 143)], .agg [.lit (.int .u8 0), .lit (.int .u8 0)], .agg [.lit (.int .u8 0), .lit (.int .u8 0)], .agg [.lit (.int .u8 0), .lit (.int .u8 0)], .agg [.lit (.int .u8 0), .lit (.int .u8 0)], .agg [.lit (.int .u8 0), .lit (.int .u8 0)], .agg [.lit (.int .u8 0), .lit (.int .u8 0)], .agg [.lit (.int .u8 0), .lit (.int .u8 0)], .agg [.lit (.int .u8 0), .lit (.int .u8 0)], .agg [.lit (.int .u8 0), .lit (.int .u8 0)], .agg [.lit (.int .u8 0), .lit (.int .u8 0)], .agg [.lit (.int .u8 0), .lit (.int .u8 0)]]
def laid_pannier_hash_great {H : Type} : DataW H := .agg [.lit (.int .u64 14695981039346656037), .lit (.int .u64 1099511628211)]
/-- One of Go's own tables, pinned by name: the form's constant. -/
def laid_unicode_utf8_first : DataW Unit := Go.Pinned.utf8First

/-- 'pannierlaw40.DigestOf': WHATEVER THE INPUT: true; the input reads as it did. -/
def digestOfSpec : ChangeSpec := { name := "digestOf", fn := fun _ => fun
  | [d1, d2] => { results := [.lit (.bool true)], args := [d1, d2] }
  | _ => none }
def digestOfRow : OpenClaim := { program := "ytlgjaminfabchaagreatdoor", sum := "907f88fc78c669d68a9b3b5a52eb35bdc9a2f4b3feb0364619793d87f952ebb8", func := "pannier/pannierlaw40.DigestOf", spec := "digestOf", inPlace := ["internal/bytealg.IndexByteString", "internal/bytealg.IndexString", "internal/abi.NoEscape", "slices.overlaps[pannier/api.Entry]"], unfollowed := true, recurses := true, named := ["unicode/utf8.first", "unicode/utf8.acceptRanges", "internal/bytealg.MaxLen", "pannier/hash.great"], apart := false, laid := [("unicode/utf8.acceptRanges", laid_unicode_utf8_acceptRanges), ("pannier/hash.great", laid_pannier_hash_great), ("unicode/utf8.first", laid_unicode_utf8_first)] }
def DigestOfSaid : Prop := digestOfRow.holds Tryz.pinned (OpenSpec.ofChange digestOfSpec)

/-- ITS FALSE NEIGHBOUR: 'it returns false'. Refute it at one input. -/
def digestOfWrong : ChangeSpec := { name := "digestOf", fn := fun _ => fun
  | [d1, d2] => { results := [.lit (.bool false)], args := [d1, d2] }
  | _ => none }
def DigestOfWrongFalsely : Prop := digestOfRow.holds Tryz.pinned (OpenSpec.ofChange digestOfWrong)

/-- 'pannierlaw40.DigestKeys': WHATEVER THE INPUT: true; the input reads as it did. -/
def digestKeysSpec : ChangeSpec := { name := "digestKeys", fn := fun _ => fun
  | [d1, d2, d3] => { results := [.lit (.bool true)], args := [d1, d2, d3] }
  | _ => none }
def digestKeysRow : OpenClaim := { program := "ytlgjaminfabchaagreatdoor", sum := "907f88fc78c669d68a9b3b5a52eb35bdc9a2f4b3feb0364619793d87f952ebb8", func := "pannier/pannierlaw40.DigestKeys", spec := "digestKeys", inPlace := ["internal/bytealg.IndexByteString", "internal/bytealg.IndexString", "internal/abi.NoEscape", "slices.overlaps[pannier/api.Entry]"], unfollowed := true, recurses := true, named := ["unicode/utf8.first", "unicode/utf8.acceptRanges", "internal/bytealg.MaxLen", "pannier/hash.great"], apart := false, laid := [("unicode/utf8.acceptRanges", laid_unicode_utf8_acceptRanges), ("pannier/hash.great", laid_pannier_hash_great), ("unicode/utf8.first", laid_unicode_utf8_first)] }
def DigestKeysSaid : Prop := digestKeysRow.holds Tryz.pinned (OpenSpec.ofChange digestKeysSpec)

/-- ITS FALSE NEIGHBOUR: 'it returns false'. Refute it at one input. -/
def digestKeysWrong : ChangeSpec := { name := "digestKeys", fn := fun _ => fun
  | [d1, d2, d3] => { results := [.lit (.bool false)], args := [d1, d2, d3] }
  | _ => none }
def DigestKeysWrongFalsely : Prop := digestKeysRow.holds Tryz.pinned (OpenSpec.ofChange digestKeysWrong)

/-- 'pannierlaw40.DigestSyncs': WHATEVER THE INPUT: true; the input reads as it did. -/
def digestSyncsSpec : ChangeSpec := { name := "digestSyncs", fn := fun _ => fun
  | [d1, d2] => { results := [.lit (.bool true)], args := [d1, d2] }
  | _ => none }
def digestSyncsRow : OpenClaim := { program := "ytlgjaminfabchaagreatdoor", sum := "907f88fc78c669d68a9b3b5a52eb35bdc9a2f4b3feb0364619793d87f952ebb8", func := "pannier/pannierlaw40.DigestSyncs", spec := "digestSyncs", inPlace := ["internal/bytealg.IndexByteString", "internal/bytealg.IndexString", "internal/abi.NoEscape", "slices.overlaps[pannier/api.Entry]"], unfollowed := true, recurses := true, named := ["unicode/utf8.first", "unicode/utf8.acceptRanges", "internal/bytealg.MaxLen", "pannier/hash.great"], apart := false, laid := [("unicode/utf8.acceptRanges", laid_unicode_utf8_acceptRanges), ("pannier/hash.great", laid_pannier_hash_great), ("unicode/utf8.first", laid_unicode_utf8_first)] }
def DigestSyncsSaid : Prop := digestSyncsRow.holds Tryz.pinned (OpenSpec.ofChange digestSyncsSpec)

/-- ITS FALSE NEIGHBOUR: 'it returns false'. Refute it at one input. -/
def digestSyncsWrong : ChangeSpec := { name := "digestSyncs", fn := fun _ => fun
  | [d1, d2] => { results := [.lit (.bool false)], args := [d1, d2] }
  | _ => none }
def DigestSyncsWrongFalsely : Prop := digestSyncsRow.holds Tryz.pinned (OpenSpec.ofChange digestSyncsWrong)

/-- 'pannierlaw40.DigestFulls': WHATEVER THE INPUT: true; the input reads as it did. -/
def digestFullsSpec : ChangeSpec := { name := "digestFulls", fn := fun _ => fun
  | [d1, d2] => { results := [.lit (.bool true)], args := [d1, d2] }
  | _ => none }
def digestFullsRow : OpenClaim := { program := "ytlgjaminfabchaagreatdoor", sum := "907f88fc78c669d68a9b3b5a52eb35bdc9a2f4b3feb0364619793d87f952ebb8", func := "pannier/pannierlaw40.DigestFulls", spec := "digestFulls", inPlace := ["internal/bytealg.IndexByteString", "internal/bytealg.IndexString", "internal/abi.NoEscape", "slices.overlaps[pannier/api.Entry]"], unfollowed := true, recurses := true, named := ["unicode/utf8.first", "unicode/utf8.acceptRanges", "internal/bytealg.MaxLen", "pannier/hash.great"], apart := false, laid := [("unicode/utf8.acceptRanges", laid_unicode_utf8_acceptRanges), ("pannier/hash.great", laid_pannier_hash_great), ("unicode/utf8.first", laid_unicode_utf8_first)] }
def DigestFullsSaid : Prop := digestFullsRow.holds Tryz.pinned (OpenSpec.ofChange digestFullsSpec)

/-- ITS FALSE NEIGHBOUR: 'it returns false'. Refute it at one input. -/
def digestFullsWrong : ChangeSpec := { name := "digestFulls", fn := fun _ => fun
  | [d1, d2] => { results := [.lit (.bool false)], args := [d1, d2] }
  | _ => none }
def DigestFullsWrongFalsely : Prop := digestFullsRow.holds Tryz.pinned (OpenSpec.ofChange digestFullsWrong)

/-- 'pannierlaw40.DigestHolds': WHATEVER THE INPUT: true; the input reads as it did. -/
def digestHoldsSpec : ChangeSpec := { name := "digestHolds", fn := fun _ => fun
  | [d1, d2, d3, d4] => { results := [.lit (.bool true)], args := [d1, d2, d3, d4] }
  | _ => none }
def digestHoldsRow : OpenClaim := { program := "ytlgjaminfabchaagreatdoor", sum := "907f88fc78c669d68a9b3b5a52eb35bdc9a2f4b3feb0364619793d87f952ebb8", func := "pannier/pannierlaw40.DigestHolds", spec := "digestHolds", inPlace := ["internal/bytealg.IndexByteString", "internal/bytealg.IndexString", "internal/abi.NoEscape", "slices.overlaps[pannier/api.Entry]"], unfollowed := true, recurses := true, named := ["unicode/utf8.first", "unicode/utf8.acceptRanges", "internal/bytealg.MaxLen", "pannier/hash.great"], apart := false, laid := [("unicode/utf8.acceptRanges", laid_unicode_utf8_acceptRanges), ("pannier/hash.great", laid_pannier_hash_great), ("unicode/utf8.first", laid_unicode_utf8_first)] }
def DigestHoldsSaid : Prop := digestHoldsRow.holds Tryz.pinned (OpenSpec.ofChange digestHoldsSpec)

/-- ITS FALSE NEIGHBOUR: 'it returns false'. Refute it at one input. -/
def digestHoldsWrong : ChangeSpec := { name := "digestHolds", fn := fun _ => fun
  | [d1, d2, d3, d4] => { results := [.lit (.bool false)], args := [d1, d2, d3, d4] }
  | _ => none }
def DigestHoldsWrongFalsely : Prop := digestHoldsRow.holds Tryz.pinned (OpenSpec.ofChange digestHoldsWrong)

/- THE SECOND FORM. 'bulk': how many values and letters a reading holds, each counted each time it is reached (what is shared counts as often as it is met; a slice's spare places count too). A statement '..UptoSaid' is the law's where the arguments, and the package variables that the reading takes, are together of bulk at most 1048576: NARROWER than '..Said'. Prove '..Said' where nothing that the law and all that it calls make is longer than what came in: it says more and counts as full. Else prove '..UptoSaid'. A law counts once. -/
mutual
def uptoBulk {H : Type} : DataW H → Nat
  | .lit (.string bytes) => bytes.length + 1
  | .lit _ => 1
  | .nil => 1
  | .ptr d => uptoBulk d + 1
  | .slice elems spare => uptoBulkAll elems + uptoBulkAll spare + 1
  | .agg parts => uptoBulkAll parts + 1
  | .iface _ d => uptoBulk d + 1
  | .map entries => uptoBulkEntries entries + 1
  | .held _ => 1
def uptoBulkAll {H : Type} : List (DataW H) → Nat
  | [] => 0
  | d :: r => uptoBulk d + uptoBulkAll r
def uptoBulkEntries {H : Type} : List (Lit × DataW H) → Nat
  | [] => 0
  | x :: r => uptoBulkEntry x + uptoBulkEntries r
def uptoBulkEntry {H : Type} : Lit × DataW H → Nat
  | (.string bytes, d) => bytes.length + uptoBulk d + 1
  | (_, d) => uptoBulk d + 1
 end
def uptoSmall : (H : Type) → List (DataW H) → Bool := fun _ ds => decide (uptoBulkAll ds ≤ 1048576)
def OpenSpec.upto (s : _root_.Go.ChangeSpec) : _root_.Go.OpenSpec := { _root_.Go.OpenSpec.ofChange s with cond := some uptoSmall }

/-- 'pannierlaw40.DigestOf', WHERE WHAT IT READS IS OF BULK AT MOST 1048576: true; the input reads as it did. -/
def digestOfUptoRow : OpenClaim := { program := "ytlgjaminfabchaagreatdoor", sum := "907f88fc78c669d68a9b3b5a52eb35bdc9a2f4b3feb0364619793d87f952ebb8", func := "pannier/pannierlaw40.DigestOf", spec := "digestOf", inPlace := ["internal/bytealg.IndexByteString", "internal/bytealg.IndexString", "internal/abi.NoEscape", "slices.overlaps[pannier/api.Entry]"], unfollowed := true, recurses := true, named := ["unicode/utf8.first", "unicode/utf8.acceptRanges", "internal/bytealg.MaxLen", "pannier/hash.great"], apart := false, laid := [("unicode/utf8.acceptRanges", laid_unicode_utf8_acceptRanges), ("pannier/hash.great", laid_pannier_hash_great), ("unicode/utf8.first", laid_unicode_utf8_first)], narrowed := true }
def DigestOfUptoSaid : Prop := digestOfUptoRow.holds Tryz.pinned (OpenSpec.upto digestOfSpec)

/-- 'pannierlaw40.DigestKeys', WHERE WHAT IT READS IS OF BULK AT MOST 1048576: true; the input reads as it did. -/
def digestKeysUptoRow : OpenClaim := { program := "ytlgjaminfabchaagreatdoor", sum := "907f88fc78c669d68a9b3b5a52eb35bdc9a2f4b3feb0364619793d87f952ebb8", func := "pannier/pannierlaw40.DigestKeys", spec := "digestKeys", inPlace := ["internal/bytealg.IndexByteString", "internal/bytealg.IndexString", "internal/abi.NoEscape", "slices.overlaps[pannier/api.Entry]"], unfollowed := true, recurses := true, named := ["unicode/utf8.first", "unicode/utf8.acceptRanges", "internal/bytealg.MaxLen", "pannier/hash.great"], apart := false, laid := [("unicode/utf8.acceptRanges", laid_unicode_utf8_acceptRanges), ("pannier/hash.great", laid_pannier_hash_great), ("unicode/utf8.first", laid_unicode_utf8_first)], narrowed := true }
def DigestKeysUptoSaid : Prop := digestKeysUptoRow.holds Tryz.pinned (OpenSpec.upto digestKeysSpec)

/-- 'pannierlaw40.DigestSyncs', WHERE WHAT IT READS IS OF BULK AT MOST 1048576: true; the input reads as it did. -/
def digestSyncsUptoRow : OpenClaim := { program := "ytlgjaminfabchaagreatdoor", sum := "907f88fc78c669d68a9b3b5a52eb35bdc9a2f4b3feb0364619793d87f952ebb8", func := "pannier/pannierlaw40.DigestSyncs", spec := "digestSyncs", inPlace := ["internal/bytealg.IndexByteString", "internal/bytealg.IndexString", "internal/abi.NoEscape", "slices.overlaps[pannier/api.Entry]"], unfollowed := true, recurses := true, named := ["unicode/utf8.first", "unicode/utf8.acceptRanges", "internal/bytealg.MaxLen", "pannier/hash.great"], apart := false, laid := [("unicode/utf8.acceptRanges", laid_unicode_utf8_acceptRanges), ("pannier/hash.great", laid_pannier_hash_great), ("unicode/utf8.first", laid_unicode_utf8_first)], narrowed := true }
def DigestSyncsUptoSaid : Prop := digestSyncsUptoRow.holds Tryz.pinned (OpenSpec.upto digestSyncsSpec)

/-- 'pannierlaw40.DigestFulls', WHERE WHAT IT READS IS OF BULK AT MOST 1048576: true; the input reads as it did. -/
def digestFullsUptoRow : OpenClaim := { program := "ytlgjaminfabchaagreatdoor", sum := "907f88fc78c669d68a9b3b5a52eb35bdc9a2f4b3feb0364619793d87f952ebb8", func := "pannier/pannierlaw40.DigestFulls", spec := "digestFulls", inPlace := ["internal/bytealg.IndexByteString", "internal/bytealg.IndexString", "internal/abi.NoEscape", "slices.overlaps[pannier/api.Entry]"], unfollowed := true, recurses := true, named := ["unicode/utf8.first", "unicode/utf8.acceptRanges", "internal/bytealg.MaxLen", "pannier/hash.great"], apart := false, laid := [("unicode/utf8.acceptRanges", laid_unicode_utf8_acceptRanges), ("pannier/hash.great", laid_pannier_hash_great), ("unicode/utf8.first", laid_unicode_utf8_first)], narrowed := true }
def DigestFullsUptoSaid : Prop := digestFullsUptoRow.holds Tryz.pinned (OpenSpec.upto digestFullsSpec)

/-- 'pannierlaw40.DigestHolds', WHERE WHAT IT READS IS OF BULK AT MOST 1048576: true; the input reads as it did. -/
def digestHoldsUptoRow : OpenClaim := { program := "ytlgjaminfabchaagreatdoor", sum := "907f88fc78c669d68a9b3b5a52eb35bdc9a2f4b3feb0364619793d87f952ebb8", func := "pannier/pannierlaw40.DigestHolds", spec := "digestHolds", inPlace := ["internal/bytealg.IndexByteString", "internal/bytealg.IndexString", "internal/abi.NoEscape", "slices.overlaps[pannier/api.Entry]"], unfollowed := true, recurses := true, named := ["unicode/utf8.first", "unicode/utf8.acceptRanges", "internal/bytealg.MaxLen", "pannier/hash.great"], apart := false, laid := [("unicode/utf8.acceptRanges", laid_unicode_utf8_acceptRanges), ("pannier/hash.great", laid_pannier_hash_great), ("unicode/utf8.first", laid_unicode_utf8_first)], narrowed := true }
def DigestHoldsUptoSaid : Prop := digestHoldsUptoRow.holds Tryz.pinned (OpenSpec.upto digestHoldsSpec)

end Rows
end Go.Proofs.YtlgjaminfabchaaGreatDoor
