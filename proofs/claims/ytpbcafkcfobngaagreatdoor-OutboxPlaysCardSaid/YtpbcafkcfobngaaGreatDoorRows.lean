/-
  NARROWER THAN 'FOR EVERY INPUT', by the rows' own cells (each row's printed sentence says how): BatchEncodes: laid · BatchDecodes: laid · BatchSpoilt: laid · BatchSplits: laid · BatchMany: laid · BatchMerges: laid · BatchHolds: laid · OutboxNil: laid · OutboxHolds: laid · OutboxNew: laid · OutboxFulls: laid · OutboxPlays: laid.
  DERIVED. THE GIVEN ROWS OF THIS SEAT. 12 by the template 'for every input the law returns true; each argument reads behind the call as it read before'; 0 by the template 'total and deterministic' (their statements: YtpbcafkcfobngaaGreatDoorTotals.lean).
  GIVEN WITH THE SEED: the statements are not yours to turn. If you find one false, say at which input.
  Laid BY PROGRAM, IN A SANDBOX (cutbox-rows.mjs): the forced cells as the released guide's own fill.sh prints them over the translation d50b7eb1d44fbd37… (all of the seat's roots in one cut). By AI agents, Wed Nov 11 2026. No macro, syntax, notation, axiom, sorry.
-/
import Derived.Test.YtpbcafkcfobngaaGreatDoorChecked
import GoSem.PinnedTables
import GoSem.Claim
import GoSem.ClaimJoined
import GoSem.ClaimMapViews
import Derived.JoinedTies
import Derived.KernelRfl
namespace Go.Proofs.YtpbcafkcfobngaaGreatDoor
/- THE CELL 'sum', in the pinned program and in every row, IS THE sha256 OF THE DUMP (.gsa) THAT YtpbcafkcfobngaaGreatDoorProg.lean LOADS. Nothing in Lean hashes anything: it is a label: what it is worth is what the hold of that sum in a sandbox is worth. -/
noncomputable def Tryz.pinned : Pinned := { name := "ytpbcafkcfobngaagreatdoor", sum := "d50b7eb1d44fbd3719c27e307687777fd256522111ed2d73a6cc48946b2e4bfb", checked := Tryz.checked }
namespace Rows
def none {H : Type} : Left H := { results := [], args := [] }

/- WHAT THE LISTED PACKAGE-LEVEL VARIABLES READ AS WHEN THE CALL BEGINS. Each datum BY PROGRAM (the guide's laid-datum.mjs) off the statement by which the dump's own 'gosem.cut.vars' lays the variable. In a bare row this is a premise. The card (YtpbcafkcfobngaaGreatDoorCards.lean) ties it to the program's text. -/
def laid_unicode_utf8_acceptRanges {H : Type} : DataW H := .agg [.agg [.lit (.int .u8 128), .lit (.int .u8 191)], .agg [.lit (.int .u8 160), .lit (.int .u8 191)], .agg [.lit (.int .u8 128), .lit (.int .u8 159)], .agg [.lit (.int .u8 144), .lit (.int .u8 191)], .agg [.lit (.int .u8 128), .lit (.int .u8 143)], .agg [.lit (.int .u8 0), .lit (.int .u8 0)], .agg [.lit (.int .u8 0), .lit (.int .u8 0)], .agg [.lit (.int .u8 0), .lit (.int .u8 0)], .agg [.lit (.int .u8 0), .lit (.int .u8 0)], .agg [.lit (.int .u8 0), .lit (.int .u8 0)], .agg [.lit (.int .u8 0), .lit (.int .u8 0)], .agg [.lit (.int .u8 0), .lit (.int .u8 0)], .agg [.lit (.int .u8 0), .lit (.int .u8 0)], .agg [.lit (.int .u8 0), .lit (.int .u8 0)], .agg [.lit (.int .u8 0), .lit (.int .u8 0)], .agg [.lit (.int .u8 0), .lit (.int .u8 0)]]
/-- One of Go's own tables, pinned by name: the form's constant. -/
def laid_unicode_utf8_first : DataW Unit := Go.Pinned.utf8First

/-- 'pannierlaw16.BatchEncodes': WHATEVER THE INPUT: true; the input reads as it did. -/
def batchEncodesSpec : ChangeSpec := { name := "batchEncodes", fn := fun _ => fun
  | [d] => { results := [.lit (.bool true)], args := [d] }
  | _ => none }
def batchEncodesRow : OpenClaim := { program := "ytpbcafkcfobngaagreatdoor", sum := "d50b7eb1d44fbd3719c27e307687777fd256522111ed2d73a6cc48946b2e4bfb", func := "pannier/pannierlaw16.BatchEncodes", spec := "batchEncodes", inPlace := ["internal/bytealg.IndexByteString", "internal/bytealg.IndexString", "internal/bytealg.abigen_runtime_cmpstring"], unfollowed := true, recurses := true, named := ["unicode/utf8.first", "unicode/utf8.acceptRanges", "internal/bytealg.MaxLen"], apart := false, laid := [("unicode/utf8.acceptRanges", laid_unicode_utf8_acceptRanges), ("unicode/utf8.first", laid_unicode_utf8_first)] }
def BatchEncodesSaid : Prop := batchEncodesRow.holds Tryz.pinned (OpenSpec.ofChange batchEncodesSpec)

/-- ITS FALSE NEIGHBOUR: 'it returns false'. Refute it at one input. -/
def batchEncodesWrong : ChangeSpec := { name := "batchEncodes", fn := fun _ => fun
  | [d] => { results := [.lit (.bool false)], args := [d] }
  | _ => none }
def BatchEncodesWrongFalsely : Prop := batchEncodesRow.holds Tryz.pinned (OpenSpec.ofChange batchEncodesWrong)

/-- 'pannierlaw16.BatchDecodes': WHATEVER THE INPUT: true; the input reads as it did. -/
def batchDecodesSpec : ChangeSpec := { name := "batchDecodes", fn := fun _ => fun
  | [d] => { results := [.lit (.bool true)], args := [d] }
  | _ => none }
def batchDecodesRow : OpenClaim := { program := "ytpbcafkcfobngaagreatdoor", sum := "d50b7eb1d44fbd3719c27e307687777fd256522111ed2d73a6cc48946b2e4bfb", func := "pannier/pannierlaw16.BatchDecodes", spec := "batchDecodes", inPlace := ["internal/bytealg.IndexByteString", "internal/bytealg.IndexString", "internal/bytealg.abigen_runtime_cmpstring"], unfollowed := true, recurses := true, named := ["unicode/utf8.first", "unicode/utf8.acceptRanges", "internal/bytealg.MaxLen"], apart := false, laid := [("unicode/utf8.acceptRanges", laid_unicode_utf8_acceptRanges), ("unicode/utf8.first", laid_unicode_utf8_first)] }
def BatchDecodesSaid : Prop := batchDecodesRow.holds Tryz.pinned (OpenSpec.ofChange batchDecodesSpec)

/-- ITS FALSE NEIGHBOUR: 'it returns false'. Refute it at one input. -/
def batchDecodesWrong : ChangeSpec := { name := "batchDecodes", fn := fun _ => fun
  | [d] => { results := [.lit (.bool false)], args := [d] }
  | _ => none }
def BatchDecodesWrongFalsely : Prop := batchDecodesRow.holds Tryz.pinned (OpenSpec.ofChange batchDecodesWrong)

/-- 'pannierlaw16.BatchSpoilt': WHATEVER THE INPUT: true; the input reads as it did. -/
def batchSpoiltSpec : ChangeSpec := { name := "batchSpoilt", fn := fun _ => fun
  | [d1, d2, d3, d4] => { results := [.lit (.bool true)], args := [d1, d2, d3, d4] }
  | _ => none }
def batchSpoiltRow : OpenClaim := { program := "ytpbcafkcfobngaagreatdoor", sum := "d50b7eb1d44fbd3719c27e307687777fd256522111ed2d73a6cc48946b2e4bfb", func := "pannier/pannierlaw16.BatchSpoilt", spec := "batchSpoilt", inPlace := ["internal/bytealg.IndexByteString", "internal/bytealg.IndexString", "internal/bytealg.abigen_runtime_cmpstring"], unfollowed := true, recurses := true, named := ["unicode/utf8.first", "unicode/utf8.acceptRanges", "internal/bytealg.MaxLen"], apart := false, laid := [("unicode/utf8.acceptRanges", laid_unicode_utf8_acceptRanges), ("unicode/utf8.first", laid_unicode_utf8_first)] }
def BatchSpoiltSaid : Prop := batchSpoiltRow.holds Tryz.pinned (OpenSpec.ofChange batchSpoiltSpec)

/-- ITS FALSE NEIGHBOUR: 'it returns false'. Refute it at one input. -/
def batchSpoiltWrong : ChangeSpec := { name := "batchSpoilt", fn := fun _ => fun
  | [d1, d2, d3, d4] => { results := [.lit (.bool false)], args := [d1, d2, d3, d4] }
  | _ => none }
def BatchSpoiltWrongFalsely : Prop := batchSpoiltRow.holds Tryz.pinned (OpenSpec.ofChange batchSpoiltWrong)

/-- 'pannierlaw16.BatchSplits': WHATEVER THE INPUT: true; the input reads as it did. -/
def batchSplitsSpec : ChangeSpec := { name := "batchSplits", fn := fun _ => fun
  | [d1, d2, d3] => { results := [.lit (.bool true)], args := [d1, d2, d3] }
  | _ => none }
def batchSplitsRow : OpenClaim := { program := "ytpbcafkcfobngaagreatdoor", sum := "d50b7eb1d44fbd3719c27e307687777fd256522111ed2d73a6cc48946b2e4bfb", func := "pannier/pannierlaw16.BatchSplits", spec := "batchSplits", inPlace := ["internal/bytealg.IndexByteString", "internal/bytealg.IndexString", "internal/bytealg.abigen_runtime_cmpstring"], unfollowed := true, recurses := true, named := ["unicode/utf8.first", "unicode/utf8.acceptRanges", "internal/bytealg.MaxLen"], apart := false, laid := [("unicode/utf8.acceptRanges", laid_unicode_utf8_acceptRanges), ("unicode/utf8.first", laid_unicode_utf8_first)] }
def BatchSplitsSaid : Prop := batchSplitsRow.holds Tryz.pinned (OpenSpec.ofChange batchSplitsSpec)

/-- ITS FALSE NEIGHBOUR: 'it returns false'. Refute it at one input. -/
def batchSplitsWrong : ChangeSpec := { name := "batchSplits", fn := fun _ => fun
  | [d1, d2, d3] => { results := [.lit (.bool false)], args := [d1, d2, d3] }
  | _ => none }
def BatchSplitsWrongFalsely : Prop := batchSplitsRow.holds Tryz.pinned (OpenSpec.ofChange batchSplitsWrong)

/-- 'pannierlaw16.BatchMany': WHATEVER THE INPUT: true; the input reads as it did. -/
def batchManySpec : ChangeSpec := { name := "batchMany", fn := fun _ => fun
  | [d] => { results := [.lit (.bool true)], args := [d] }
  | _ => none }
def batchManyRow : OpenClaim := { program := "ytpbcafkcfobngaagreatdoor", sum := "d50b7eb1d44fbd3719c27e307687777fd256522111ed2d73a6cc48946b2e4bfb", func := "pannier/pannierlaw16.BatchMany", spec := "batchMany", inPlace := ["internal/bytealg.IndexByteString", "internal/bytealg.IndexString", "internal/bytealg.abigen_runtime_cmpstring"], unfollowed := true, recurses := true, named := ["unicode/utf8.first", "unicode/utf8.acceptRanges", "internal/bytealg.MaxLen"], apart := false, laid := [("unicode/utf8.acceptRanges", laid_unicode_utf8_acceptRanges), ("unicode/utf8.first", laid_unicode_utf8_first)] }
def BatchManySaid : Prop := batchManyRow.holds Tryz.pinned (OpenSpec.ofChange batchManySpec)

/-- ITS FALSE NEIGHBOUR: 'it returns false'. Refute it at one input. -/
def batchManyWrong : ChangeSpec := { name := "batchMany", fn := fun _ => fun
  | [d] => { results := [.lit (.bool false)], args := [d] }
  | _ => none }
def BatchManyWrongFalsely : Prop := batchManyRow.holds Tryz.pinned (OpenSpec.ofChange batchManyWrong)

/-- 'pannierlaw16.BatchMerges': WHATEVER THE INPUT: true; the input reads as it did. -/
def batchMergesSpec : ChangeSpec := { name := "batchMerges", fn := fun _ => fun
  | [d1, d2] => { results := [.lit (.bool true)], args := [d1, d2] }
  | _ => none }
def batchMergesRow : OpenClaim := { program := "ytpbcafkcfobngaagreatdoor", sum := "d50b7eb1d44fbd3719c27e307687777fd256522111ed2d73a6cc48946b2e4bfb", func := "pannier/pannierlaw16.BatchMerges", spec := "batchMerges", inPlace := ["internal/bytealg.IndexByteString", "internal/bytealg.IndexString", "internal/bytealg.abigen_runtime_cmpstring"], unfollowed := true, recurses := true, named := ["unicode/utf8.first", "unicode/utf8.acceptRanges", "internal/bytealg.MaxLen"], apart := false, laid := [("unicode/utf8.acceptRanges", laid_unicode_utf8_acceptRanges), ("unicode/utf8.first", laid_unicode_utf8_first)] }
def BatchMergesSaid : Prop := batchMergesRow.holds Tryz.pinned (OpenSpec.ofChange batchMergesSpec)

/-- ITS FALSE NEIGHBOUR: 'it returns false'. Refute it at one input. -/
def batchMergesWrong : ChangeSpec := { name := "batchMerges", fn := fun _ => fun
  | [d1, d2] => { results := [.lit (.bool false)], args := [d1, d2] }
  | _ => none }
def BatchMergesWrongFalsely : Prop := batchMergesRow.holds Tryz.pinned (OpenSpec.ofChange batchMergesWrong)

/-- 'pannierlaw16.BatchHolds': WHATEVER THE INPUT: true; the input reads as it did. -/
def batchHoldsSpec : ChangeSpec := { name := "batchHolds", fn := fun _ => fun
  | [d1, d2, d3, d4] => { results := [.lit (.bool true)], args := [d1, d2, d3, d4] }
  | _ => none }
def batchHoldsRow : OpenClaim := { program := "ytpbcafkcfobngaagreatdoor", sum := "d50b7eb1d44fbd3719c27e307687777fd256522111ed2d73a6cc48946b2e4bfb", func := "pannier/pannierlaw16.BatchHolds", spec := "batchHolds", inPlace := ["internal/bytealg.IndexByteString", "internal/bytealg.IndexString", "internal/bytealg.abigen_runtime_cmpstring"], unfollowed := true, recurses := true, named := ["unicode/utf8.first", "unicode/utf8.acceptRanges", "internal/bytealg.MaxLen"], apart := false, laid := [("unicode/utf8.acceptRanges", laid_unicode_utf8_acceptRanges), ("unicode/utf8.first", laid_unicode_utf8_first)] }
def BatchHoldsSaid : Prop := batchHoldsRow.holds Tryz.pinned (OpenSpec.ofChange batchHoldsSpec)

/-- ITS FALSE NEIGHBOUR: 'it returns false'. Refute it at one input. -/
def batchHoldsWrong : ChangeSpec := { name := "batchHolds", fn := fun _ => fun
  | [d1, d2, d3, d4] => { results := [.lit (.bool false)], args := [d1, d2, d3, d4] }
  | _ => none }
def BatchHoldsWrongFalsely : Prop := batchHoldsRow.holds Tryz.pinned (OpenSpec.ofChange batchHoldsWrong)

/-- 'pannierlaw21.OutboxNil': WHATEVER THE INPUT: true; the input reads as it did. -/
def outboxNilSpec : ChangeSpec := { name := "outboxNil", fn := fun _ => fun
  | [d1, d2] => { results := [.lit (.bool true)], args := [d1, d2] }
  | _ => none }
def outboxNilRow : OpenClaim := { program := "ytpbcafkcfobngaagreatdoor", sum := "d50b7eb1d44fbd3719c27e307687777fd256522111ed2d73a6cc48946b2e4bfb", func := "pannier/pannierlaw21.OutboxNil", spec := "outboxNil", inPlace := ["internal/bytealg.IndexByteString", "internal/bytealg.IndexString", "internal/bytealg.abigen_runtime_cmpstring", "slices.overlaps[string]"], unfollowed := true, recurses := true, named := ["unicode/utf8.first", "unicode/utf8.acceptRanges", "internal/bytealg.MaxLen"], apart := false, laid := [("unicode/utf8.acceptRanges", laid_unicode_utf8_acceptRanges), ("unicode/utf8.first", laid_unicode_utf8_first)] }
def OutboxNilSaid : Prop := outboxNilRow.holds Tryz.pinned (OpenSpec.ofChange outboxNilSpec)

/-- ITS FALSE NEIGHBOUR: 'it returns false'. Refute it at one input. -/
def outboxNilWrong : ChangeSpec := { name := "outboxNil", fn := fun _ => fun
  | [d1, d2] => { results := [.lit (.bool false)], args := [d1, d2] }
  | _ => none }
def OutboxNilWrongFalsely : Prop := outboxNilRow.holds Tryz.pinned (OpenSpec.ofChange outboxNilWrong)

/-- 'pannierlaw21.OutboxHolds': WHATEVER THE INPUT: true; the input reads as it did. -/
def outboxHoldsSpec : ChangeSpec := { name := "outboxHolds", fn := fun _ => fun
  | [d1, d2] => { results := [.lit (.bool true)], args := [d1, d2] }
  | _ => none }
def outboxHoldsRow : OpenClaim := { program := "ytpbcafkcfobngaagreatdoor", sum := "d50b7eb1d44fbd3719c27e307687777fd256522111ed2d73a6cc48946b2e4bfb", func := "pannier/pannierlaw21.OutboxHolds", spec := "outboxHolds", inPlace := ["internal/bytealg.IndexByteString", "internal/bytealg.IndexString", "internal/bytealg.abigen_runtime_cmpstring", "slices.overlaps[string]"], unfollowed := true, recurses := true, named := ["unicode/utf8.first", "unicode/utf8.acceptRanges", "internal/bytealg.MaxLen"], apart := false, laid := [("unicode/utf8.acceptRanges", laid_unicode_utf8_acceptRanges), ("unicode/utf8.first", laid_unicode_utf8_first)] }
def OutboxHoldsSaid : Prop := outboxHoldsRow.holds Tryz.pinned (OpenSpec.ofChange outboxHoldsSpec)

/-- ITS FALSE NEIGHBOUR: 'it returns false'. Refute it at one input. -/
def outboxHoldsWrong : ChangeSpec := { name := "outboxHolds", fn := fun _ => fun
  | [d1, d2] => { results := [.lit (.bool false)], args := [d1, d2] }
  | _ => none }
def OutboxHoldsWrongFalsely : Prop := outboxHoldsRow.holds Tryz.pinned (OpenSpec.ofChange outboxHoldsWrong)

/-- 'pannierlaw21.OutboxNew': WHATEVER THE INPUT: true; the input reads as it did. -/
def outboxNewSpec : ChangeSpec := { name := "outboxNew", fn := fun _ => fun
  | [d] => { results := [.lit (.bool true)], args := [d] }
  | _ => none }
def outboxNewRow : OpenClaim := { program := "ytpbcafkcfobngaagreatdoor", sum := "d50b7eb1d44fbd3719c27e307687777fd256522111ed2d73a6cc48946b2e4bfb", func := "pannier/pannierlaw21.OutboxNew", spec := "outboxNew", inPlace := ["internal/bytealg.IndexByteString", "internal/bytealg.IndexString", "internal/bytealg.abigen_runtime_cmpstring", "slices.overlaps[string]"], unfollowed := true, recurses := true, named := ["unicode/utf8.first", "unicode/utf8.acceptRanges", "internal/bytealg.MaxLen"], apart := false, laid := [("unicode/utf8.acceptRanges", laid_unicode_utf8_acceptRanges), ("unicode/utf8.first", laid_unicode_utf8_first)] }
def OutboxNewSaid : Prop := outboxNewRow.holds Tryz.pinned (OpenSpec.ofChange outboxNewSpec)

/-- ITS FALSE NEIGHBOUR: 'it returns false'. Refute it at one input. -/
def outboxNewWrong : ChangeSpec := { name := "outboxNew", fn := fun _ => fun
  | [d] => { results := [.lit (.bool false)], args := [d] }
  | _ => none }
def OutboxNewWrongFalsely : Prop := outboxNewRow.holds Tryz.pinned (OpenSpec.ofChange outboxNewWrong)

/-- 'pannierlaw21.OutboxFulls': WHATEVER THE INPUT: true; the input reads as it did. -/
def outboxFullsSpec : ChangeSpec := { name := "outboxFulls", fn := fun _ => fun
  | [d1, d2, d3] => { results := [.lit (.bool true)], args := [d1, d2, d3] }
  | _ => none }
def outboxFullsRow : OpenClaim := { program := "ytpbcafkcfobngaagreatdoor", sum := "d50b7eb1d44fbd3719c27e307687777fd256522111ed2d73a6cc48946b2e4bfb", func := "pannier/pannierlaw21.OutboxFulls", spec := "outboxFulls", inPlace := ["internal/bytealg.IndexByteString", "internal/bytealg.IndexString", "internal/bytealg.abigen_runtime_cmpstring", "slices.overlaps[string]"], unfollowed := true, recurses := true, named := ["unicode/utf8.first", "unicode/utf8.acceptRanges", "internal/bytealg.MaxLen"], apart := false, laid := [("unicode/utf8.acceptRanges", laid_unicode_utf8_acceptRanges), ("unicode/utf8.first", laid_unicode_utf8_first)] }
def OutboxFullsSaid : Prop := outboxFullsRow.holds Tryz.pinned (OpenSpec.ofChange outboxFullsSpec)

/-- ITS FALSE NEIGHBOUR: 'it returns false'. Refute it at one input. -/
def outboxFullsWrong : ChangeSpec := { name := "outboxFulls", fn := fun _ => fun
  | [d1, d2, d3] => { results := [.lit (.bool false)], args := [d1, d2, d3] }
  | _ => none }
def OutboxFullsWrongFalsely : Prop := outboxFullsRow.holds Tryz.pinned (OpenSpec.ofChange outboxFullsWrong)

/-- 'pannierlaw21.OutboxPlays': WHATEVER THE INPUT: true; the input reads as it did. -/
def outboxPlaysSpec : ChangeSpec := { name := "outboxPlays", fn := fun _ => fun
  | [d1, d2] => { results := [.lit (.bool true)], args := [d1, d2] }
  | _ => none }
def outboxPlaysRow : OpenClaim := { program := "ytpbcafkcfobngaagreatdoor", sum := "d50b7eb1d44fbd3719c27e307687777fd256522111ed2d73a6cc48946b2e4bfb", func := "pannier/pannierlaw21.OutboxPlays", spec := "outboxPlays", inPlace := ["internal/bytealg.IndexByteString", "internal/bytealg.IndexString", "internal/bytealg.abigen_runtime_cmpstring", "slices.overlaps[string]"], unfollowed := true, recurses := true, named := ["unicode/utf8.first", "unicode/utf8.acceptRanges", "internal/bytealg.MaxLen"], apart := false, laid := [("unicode/utf8.acceptRanges", laid_unicode_utf8_acceptRanges), ("unicode/utf8.first", laid_unicode_utf8_first)] }
def OutboxPlaysSaid : Prop := outboxPlaysRow.holds Tryz.pinned (OpenSpec.ofChange outboxPlaysSpec)

/-- ITS FALSE NEIGHBOUR: 'it returns false'. Refute it at one input. -/
def outboxPlaysWrong : ChangeSpec := { name := "outboxPlays", fn := fun _ => fun
  | [d1, d2] => { results := [.lit (.bool false)], args := [d1, d2] }
  | _ => none }
def OutboxPlaysWrongFalsely : Prop := outboxPlaysRow.holds Tryz.pinned (OpenSpec.ofChange outboxPlaysWrong)

/- THE SECOND FORM. 'bulk': how many values and letters a reading holds, each counted each time it is reached (what is shared counts as often as it is met; a slice's spare places count too). A statement '..UptoSaid' is the law's where the arguments, and the package variables that the reading takes, are together of bulk at most 1048576: NARROWER than '..Said'. Prove '..Said' where nothing that the law and all that it calls make is longer than what came in: it says more and counts as full. Else prove '..UptoSaid'. A law counts once. -/
mutual
def uptoBulk {H : Type} : DataW H → Nat
  | .lit (.string bytes) => bytes.length + 1
  | .lit _ => 1
  | .nil => 1
  | .ptr d => uptoBulk d + 1
  | .slice elems spare => uptoBulkAll elems + uptoBulkAll spare + 1
  | .agg parts => uptoBulkAll parts + 1
  | .iface _ d => uptoBulk d + 1
  | .map entries => uptoBulkEntries entries + 1
  | .held _ => 1
def uptoBulkAll {H : Type} : List (DataW H) → Nat
  | [] => 0
  | d :: r => uptoBulk d + uptoBulkAll r
def uptoBulkEntries {H : Type} : List (Lit × DataW H) → Nat
  | [] => 0
  | x :: r => uptoBulkEntry x + uptoBulkEntries r
def uptoBulkEntry {H : Type} : Lit × DataW H → Nat
  | (.string bytes, d) => bytes.length + uptoBulk d + 1
  | (_, d) => uptoBulk d + 1
 end
def uptoSmall : (H : Type) → List (DataW H) → Bool := fun _ ds => decide (uptoBulkAll ds ≤ 1048576)
def OpenSpec.upto (s : _root_.Go.ChangeSpec) : _root_.Go.OpenSpec := { _root_.Go.OpenSpec.ofChange s with cond := some uptoSmall }

/-- 'pannierlaw16.BatchEncodes', WHERE WHAT IT READS IS OF BULK AT MOST 1048576: true; the input reads as it did. -/
def batchEncodesUptoRow : OpenClaim := { program := "ytpbcafkcfobngaagreatdoor", sum := "d50b7eb1d44fbd3719c27e307687777fd256522111ed2d73a6cc48946b2e4bfb", func := "pannier/pannierlaw16.BatchEncodes", spec := "batchEncodes", inPlace := ["internal/bytealg.IndexByteString", "internal/bytealg.IndexString", "internal/bytealg.abigen_runtime_cmpstring"], unfollowed := true, recurses := true, named := ["unicode/utf8.first", "unicode/utf8.acceptRanges", "internal/bytealg.MaxLen"], apart := false, laid := [("unicode/utf8.acceptRanges", laid_unicode_utf8_acceptRanges), ("unicode/utf8.first", laid_unicode_utf8_first)], narrowed := true }
def BatchEncodesUptoSaid : Prop := batchEncodesUptoRow.holds Tryz.pinned (OpenSpec.upto batchEncodesSpec)

/-- 'pannierlaw16.BatchDecodes', WHERE WHAT IT READS IS OF BULK AT MOST 1048576: true; the input reads as it did. -/
def batchDecodesUptoRow : OpenClaim := { program := "ytpbcafkcfobngaagreatdoor", sum := "d50b7eb1d44fbd3719c27e307687777fd256522111ed2d73a6cc48946b2e4bfb", func := "pannier/pannierlaw16.BatchDecodes", spec := "batchDecodes", inPlace := ["internal/bytealg.IndexByteString", "internal/bytealg.IndexString", "internal/bytealg.abigen_runtime_cmpstring"], unfollowed := true, recurses := true, named := ["unicode/utf8.first", "unicode/utf8.acceptRanges", "internal/bytealg.MaxLen"], apart := false, laid := [("unicode/utf8.acceptRanges", laid_unicode_utf8_acceptRanges), ("unicode/utf8.first", laid_unicode_utf8_first)], narrowed := true }
def BatchDecodesUptoSaid : Prop := batchDecodesUptoRow.holds Tryz.pinned (OpenSpec.upto batchDecodesSpec)

/-- 'pannierlaw16.BatchSpoilt', WHERE WHAT IT READS IS OF BULK AT MOST 1048576: true; the input reads as it did. -/
def batchSpoiltUptoRow : OpenClaim := { program := "ytpbcafkcfobngaagreatdoor", sum := "d50b7eb1d44fbd3719c27e307687777fd256522111ed2d73a6cc48946b2e4bfb", func := "pannier/pannierlaw16.BatchSpoilt", spec := "batchSpoilt", inPlace := ["internal/bytealg.IndexByteString", "internal/bytealg.IndexString", "internal/bytealg.abigen_runtime_cmpstring"], unfollowed := true, recurses := true, named := ["unicode/utf8.first", "unicode/utf8.acceptRanges", "internal/bytealg.MaxLen"], apart := false, laid := [("unicode/utf8.acceptRanges", laid_unicode_utf8_acceptRanges), ("unicode/utf8.first", laid_unicode_utf8_first)], narrowed := true }
def BatchSpoiltUptoSaid : Prop := batchSpoiltUptoRow.holds Tryz.pinned (OpenSpec.upto batchSpoiltSpec)

/-- 'pannierlaw16.BatchSplits', WHERE WHAT IT READS IS OF BULK AT MOST 1048576: true; the input reads as it did. -/
def batchSplitsUptoRow : OpenClaim := { program := "ytpbcafkcfobngaagreatdoor", sum := "d50b7eb1d44fbd3719c27e307687777fd256522111ed2d73a6cc48946b2e4bfb", func := "pannier/pannierlaw16.BatchSplits", spec := "batchSplits", inPlace := ["internal/bytealg.IndexByteString", "internal/bytealg.IndexString", "internal/bytealg.abigen_runtime_cmpstring"], unfollowed := true, recurses := true, named := ["unicode/utf8.first", "unicode/utf8.acceptRanges", "internal/bytealg.MaxLen"], apart := false, laid := [("unicode/utf8.acceptRanges", laid_unicode_utf8_acceptRanges), ("unicode/utf8.first", laid_unicode_utf8_first)], narrowed := true }
def BatchSplitsUptoSaid : Prop := batchSplitsUptoRow.holds Tryz.pinned (OpenSpec.upto batchSplitsSpec)

/-- 'pannierlaw16.BatchMany', WHERE WHAT IT READS IS OF BULK AT MOST 1048576: true; the input reads as it did. -/
def batchManyUptoRow : OpenClaim := { program := "ytpbcafkcfobngaagreatdoor", sum := "d50b7eb1d44fbd3719c27e307687777fd256522111ed2d73a6cc48946b2e4bfb", func := "pannier/pannierlaw16.BatchMany", spec := "batchMany", inPlace := ["internal/bytealg.IndexByteString", "internal/bytealg.IndexString", "internal/bytealg.abigen_runtime_cmpstring"], unfollowed := true, recurses := true, named := ["unicode/utf8.first", "unicode/utf8.acceptRanges", "internal/bytealg.MaxLen"], apart := false, laid := [("unicode/utf8.acceptRanges", laid_unicode_utf8_acceptRanges), ("unicode/utf8.first", laid_unicode_utf8_first)], narrowed := true }
def BatchManyUptoSaid : Prop := batchManyUptoRow.holds Tryz.pinned (OpenSpec.upto batchManySpec)

/-- 'pannierlaw16.BatchMerges', WHERE WHAT IT READS IS OF BULK AT MOST 1048576: true; the input reads as it did. -/
def batchMergesUptoRow : OpenClaim := { program := "ytpbcafkcfobngaagreatdoor", sum := "d50b7eb1d44fbd3719c27e307687777fd256522111ed2d73a6cc48946b2e4bfb", func := "pannier/pannierlaw16.BatchMerges", spec := "batchMerges", inPlace := ["internal/bytealg.IndexByteString", "internal/bytealg.IndexString", "internal/bytealg.abigen_runtime_cmpstring"], unfollowed := true, recurses := true, named := ["unicode/utf8.first", "unicode/utf8.acceptRanges", "internal/bytealg.MaxLen"], apart := false, laid := [("unicode/utf8.acceptRanges", laid_unicode_utf8_acceptRanges), ("unicode/utf8.first", laid_unicode_utf8_first)], narrowed := true }
def BatchMergesUptoSaid : Prop := batchMergesUptoRow.holds Tryz.pinned (OpenSpec.upto batchMergesSpec)

/-- 'pannierlaw16.BatchHolds', WHERE WHAT IT READS IS OF BULK AT MOST 1048576: true; the input reads as it did. -/
def batchHoldsUptoRow : OpenClaim := { program := "ytpbcafkcfobngaagreatdoor", sum := "d50b7eb1d44fbd3719c27e307687777fd256522111ed2d73a6cc48946b2e4bfb", func := "pannier/pannierlaw16.BatchHolds", spec := "batchHolds", inPlace := ["internal/bytealg.IndexByteString", "internal/bytealg.IndexString", "internal/bytealg.abigen_runtime_cmpstring"], unfollowed := true, recurses := true, named := ["unicode/utf8.first", "unicode/utf8.acceptRanges", "internal/bytealg.MaxLen"], apart := false, laid := [("unicode/utf8.acceptRanges", laid_unicode_utf8_acceptRanges), ("unicode/utf8.first", laid_unicode_utf8_first)], narrowed := true }
def BatchHoldsUptoSaid : Prop := batchHoldsUptoRow.holds Tryz.pinned (OpenSpec.upto batchHoldsSpec)

/-- 'pannierlaw21.OutboxNil', WHERE WHAT IT READS IS OF BULK AT MOST 1048576: true; the input reads as it did. -/
def outboxNilUptoRow : OpenClaim := { program := "ytpbcafkcfobngaagreatdoor", sum := "d50b7eb1d44fbd3719c27e307687777fd256522111ed2d73a6cc48946b2e4bfb", func := "pannier/pannierlaw21.OutboxNil", spec := "outboxNil", inPlace := ["internal/bytealg.IndexByteString", "internal/bytealg.IndexString", "internal/bytealg.abigen_runtime_cmpstring", "slices.overlaps[string]"], unfollowed := true, recurses := true, named := ["unicode/utf8.first", "unicode/utf8.acceptRanges", "internal/bytealg.MaxLen"], apart := false, laid := [("unicode/utf8.acceptRanges", laid_unicode_utf8_acceptRanges), ("unicode/utf8.first", laid_unicode_utf8_first)], narrowed := true }
def OutboxNilUptoSaid : Prop := outboxNilUptoRow.holds Tryz.pinned (OpenSpec.upto outboxNilSpec)

/-- 'pannierlaw21.OutboxHolds', WHERE WHAT IT READS IS OF BULK AT MOST 1048576: true; the input reads as it did. -/
def outboxHoldsUptoRow : OpenClaim := { program := "ytpbcafkcfobngaagreatdoor", sum := "d50b7eb1d44fbd3719c27e307687777fd256522111ed2d73a6cc48946b2e4bfb", func := "pannier/pannierlaw21.OutboxHolds", spec := "outboxHolds", inPlace := ["internal/bytealg.IndexByteString", "internal/bytealg.IndexString", "internal/bytealg.abigen_runtime_cmpstring", "slices.overlaps[string]"], unfollowed := true, recurses := true, named := ["unicode/utf8.first", "unicode/utf8.acceptRanges", "internal/bytealg.MaxLen"], apart := false, laid := [("unicode/utf8.acceptRanges", laid_unicode_utf8_acceptRanges), ("unicode/utf8.first", laid_unicode_utf8_first)], narrowed := true }
def OutboxHoldsUptoSaid : Prop := outboxHoldsUptoRow.holds Tryz.pinned (OpenSpec.upto outboxHoldsSpec)

/-- 'pannierlaw21.OutboxNew', WHERE WHAT IT READS IS OF BULK AT MOST 1048576: true; the input reads as it did. -/
def outboxNewUptoRow : OpenClaim := { program := "ytpbcafkcfobngaagreatdoor", sum := "d50b7eb1d44fbd3719c27e307687777fd256522111ed2d73a6cc48946b2e4bfb", func := "pannier/pannierlaw21.OutboxNew", spec := "outboxNew", inPlace := ["internal/bytealg.IndexByteString", "internal/bytealg.IndexString", "internal/bytealg.abigen_runtime_cmpstring", "slices.overlaps[string]"], unfollowed := true, recurses := true, named := ["unicode/utf8.first", "unicode/utf8.acceptRanges", "internal/bytealg.MaxLen"], apart := false, laid := [("unicode/utf8.acceptRanges", laid_unicode_utf8_acceptRanges), ("unicode/utf8.first", laid_unicode_utf8_first)], narrowed := true }
def OutboxNewUptoSaid : Prop := outboxNewUptoRow.holds Tryz.pinned (OpenSpec.upto outboxNewSpec)

/-- 'pannierlaw21.OutboxFulls', WHERE WHAT IT READS IS OF BULK AT MOST 1048576: true; the input reads as it did. -/
def outboxFullsUptoRow : OpenClaim := { program := "ytpbcafkcfobngaagreatdoor", sum := "d50b7eb1d44fbd3719c27e307687777fd256522111ed2d73a6cc48946b2e4bfb", func := "pannier/pannierlaw21.OutboxFulls", spec := "outboxFulls", inPlace := ["internal/bytealg.IndexByteString", "internal/bytealg.IndexString", "internal/bytealg.abigen_runtime_cmpstring", "slices.overlaps[string]"], unfollowed := true, recurses := true, named := ["unicode/utf8.first", "unicode/utf8.acceptRanges", "internal/bytealg.MaxLen"], apart := false, laid := [("unicode/utf8.acceptRanges", laid_unicode_utf8_acceptRanges), ("unicode/utf8.first", laid_unicode_utf8_first)], narrowed := true }
def OutboxFullsUptoSaid : Prop := outboxFullsUptoRow.holds Tryz.pinned (OpenSpec.upto outboxFullsSpec)

/-- 'pannierlaw21.OutboxPlays', WHERE WHAT IT READS IS OF BULK AT MOST 1048576: true; the input reads as it did. -/
def outboxPlaysUptoRow : OpenClaim := { program := "ytpbcafkcfobngaagreatdoor", sum := "d50b7eb1d44fbd3719c27e307687777fd256522111ed2d73a6cc48946b2e4bfb", func := "pannier/pannierlaw21.OutboxPlays", spec := "outboxPlays", inPlace := ["internal/bytealg.IndexByteString", "internal/bytealg.IndexString", "internal/bytealg.abigen_runtime_cmpstring", "slices.overlaps[string]"], unfollowed := true, recurses := true, named := ["unicode/utf8.first", "unicode/utf8.acceptRanges", "internal/bytealg.MaxLen"], apart := false, laid := [("unicode/utf8.acceptRanges", laid_unicode_utf8_acceptRanges), ("unicode/utf8.first", laid_unicode_utf8_first)], narrowed := true }
def OutboxPlaysUptoSaid : Prop := outboxPlaysUptoRow.holds Tryz.pinned (OpenSpec.upto outboxPlaysSpec)

end Rows
end Go.Proofs.YtpbcafkcfobngaaGreatDoor
