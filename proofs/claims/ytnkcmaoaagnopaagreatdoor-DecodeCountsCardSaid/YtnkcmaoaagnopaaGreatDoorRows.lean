/-
  NARROWER THAN 'FOR EVERY INPUT', by the rows' own cells (each row's printed sentence says how): CanonEncodes: laid · CanonAppends: laid · CanonCompares: laid · CanonLongs: laid · CanonHolds: laid · DecodeReads: laid · DecodeSpoilt: laid · DecodeCounts: laid · DecodeGreats: laid · DecodeHolds: laid.
  DERIVED. THE GIVEN ROWS OF THIS SEAT. 10 by the template 'for every input the law returns true; each argument reads behind the call as it read before'; 0 by the template 'total and deterministic' (their statements: YtnkcmaoaagnopaaGreatDoorTotals.lean).
  GIVEN WITH THE SEED: the statements are not yours to turn. If you find one false, say at which input.
  Laid BY PROGRAM, IN A SANDBOX (cutbox-rows.mjs): the forced cells as the released guide's own fill.sh prints them over the translation 82552c23c82999a3… (all of the seat's roots in one cut). By AI agents, Wed Nov 11 2026. No macro, syntax, notation, axiom, sorry.
-/
import Derived.Test.YtnkcmaoaagnopaaGreatDoorChecked
import GoSem.PinnedTables
import GoSem.Claim
import GoSem.ClaimJoined
import GoSem.ClaimMapViews
import Derived.JoinedTies
import Derived.KernelRfl
namespace Go.Proofs.YtnkcmaoaagnopaaGreatDoor
/- THE CELL 'sum', in the pinned program and in every row, IS THE sha256 OF THE DUMP (.gsa) THAT YtnkcmaoaagnopaaGreatDoorProg.lean LOADS. Nothing in Lean hashes anything: it is a label: what it is worth is what the hold of that sum in a sandbox is worth. -/
noncomputable def Tryz.pinned : Pinned := { name := "ytnkcmaoaagnopaagreatdoor", sum := "82552c23c82999a3b739385fbd19e477b3b37300b3431418dc5713f55944d3a4", checked := Tryz.checked }
namespace Rows
def none {H : Type} : Left H := { results := [], args := [] }

/- WHAT THE LISTED PACKAGE-LEVEL VARIABLES READ AS WHEN THE CALL BEGINS. Each datum BY PROGRAM (the guide's laid-datum.mjs) off the statement by which the dump's own 'gosem.cut.vars' lays the variable. In a bare row this is a premise. The card (YtnkcmaoaagnopaaGreatDoorCards.lean) ties it to the program's text. -/
def laid_unicode_utf8_acceptRanges {H : Type} : DataW H := .agg [.agg [.lit (.int .u8 128), .lit (.int .u8 191)], .agg [.lit (.int .u8 160), .lit (.int .u8 191)], .agg [.lit (.int .u8 128), .lit (.int .u8 159)], .agg [.lit (.int .u8 144), .lit (.int .u8 191)], .agg [.lit (.int .u8 128), .lit (.int .u8 143)], .agg [.lit (.int .u8 0), .lit (.int .u8 0)], .agg [.lit (.int .u8 0), .lit (.int .u8 0)], .agg [.lit (.int .u8 0), .lit (.int .u8 0)], .agg [.lit (.int .u8 0), .lit (.int .u8 0)], .agg [.lit (.int .u8 0), .lit (.int .u8 0)], .agg [.lit (.int .u8 0), .lit (.int .u8 0)], .agg [.lit (.int .u8 0), .lit (.int .u8 0)], .agg [.lit (.int .u8 0), .lit (.int .u8 0)], .agg [.lit (.int .u8 0), .lit (.int .u8 0)], .agg [.lit (.int .u8 0), .lit (.int .u8 0)], .agg [.lit (.int .u8 0), .lit (.int .u8 0)]]
/-- One of Go's own tables, pinned by name: the form's constant. -/
def laid_unicode_utf8_first : DataW Unit := Go.Pinned.utf8First

/-- 'pannierlaw14.CanonEncodes': WHATEVER THE INPUT: true; the input reads as it did. -/
def canonEncodesSpec : ChangeSpec := { name := "canonEncodes", fn := fun _ => fun
  | [d] => { results := [.lit (.bool true)], args := [d] }
  | _ => none }
def canonEncodesRow : OpenClaim := { program := "ytnkcmaoaagnopaagreatdoor", sum := "82552c23c82999a3b739385fbd19e477b3b37300b3431418dc5713f55944d3a4", func := "pannier/pannierlaw14.CanonEncodes", spec := "canonEncodes", inPlace := ["internal/bytealg.IndexByteString", "internal/bytealg.IndexString"], unfollowed := true, recurses := true, named := ["unicode/utf8.first", "unicode/utf8.acceptRanges", "internal/bytealg.MaxLen"], apart := false, laid := [("unicode/utf8.acceptRanges", laid_unicode_utf8_acceptRanges), ("unicode/utf8.first", laid_unicode_utf8_first)] }
def CanonEncodesSaid : Prop := canonEncodesRow.holds Tryz.pinned (OpenSpec.ofChange canonEncodesSpec)

/-- ITS FALSE NEIGHBOUR: 'it returns false'. Refute it at one input. -/
def canonEncodesWrong : ChangeSpec := { name := "canonEncodes", fn := fun _ => fun
  | [d] => { results := [.lit (.bool false)], args := [d] }
  | _ => none }
def CanonEncodesWrongFalsely : Prop := canonEncodesRow.holds Tryz.pinned (OpenSpec.ofChange canonEncodesWrong)

/-- 'pannierlaw14.CanonAppends': WHATEVER THE INPUT: true; the input reads as it did. -/
def canonAppendsSpec : ChangeSpec := { name := "canonAppends", fn := fun _ => fun
  | [d1, d2, d3] => { results := [.lit (.bool true)], args := [d1, d2, d3] }
  | _ => none }
def canonAppendsRow : OpenClaim := { program := "ytnkcmaoaagnopaagreatdoor", sum := "82552c23c82999a3b739385fbd19e477b3b37300b3431418dc5713f55944d3a4", func := "pannier/pannierlaw14.CanonAppends", spec := "canonAppends", inPlace := ["internal/bytealg.IndexByteString", "internal/bytealg.IndexString"], unfollowed := true, recurses := true, named := ["unicode/utf8.first", "unicode/utf8.acceptRanges", "internal/bytealg.MaxLen"], apart := false, laid := [("unicode/utf8.acceptRanges", laid_unicode_utf8_acceptRanges), ("unicode/utf8.first", laid_unicode_utf8_first)] }
def CanonAppendsSaid : Prop := canonAppendsRow.holds Tryz.pinned (OpenSpec.ofChange canonAppendsSpec)

/-- ITS FALSE NEIGHBOUR: 'it returns false'. Refute it at one input. -/
def canonAppendsWrong : ChangeSpec := { name := "canonAppends", fn := fun _ => fun
  | [d1, d2, d3] => { results := [.lit (.bool false)], args := [d1, d2, d3] }
  | _ => none }
def CanonAppendsWrongFalsely : Prop := canonAppendsRow.holds Tryz.pinned (OpenSpec.ofChange canonAppendsWrong)

/-- 'pannierlaw14.CanonCompares': WHATEVER THE INPUT: true; the input reads as it did. -/
def canonComparesSpec : ChangeSpec := { name := "canonCompares", fn := fun _ => fun
  | [d1, d2] => { results := [.lit (.bool true)], args := [d1, d2] }
  | _ => none }
def canonComparesRow : OpenClaim := { program := "ytnkcmaoaagnopaagreatdoor", sum := "82552c23c82999a3b739385fbd19e477b3b37300b3431418dc5713f55944d3a4", func := "pannier/pannierlaw14.CanonCompares", spec := "canonCompares", inPlace := ["internal/bytealg.IndexByteString", "internal/bytealg.IndexString"], unfollowed := true, recurses := true, named := ["unicode/utf8.first", "unicode/utf8.acceptRanges", "internal/bytealg.MaxLen"], apart := false, laid := [("unicode/utf8.acceptRanges", laid_unicode_utf8_acceptRanges), ("unicode/utf8.first", laid_unicode_utf8_first)] }
def CanonComparesSaid : Prop := canonComparesRow.holds Tryz.pinned (OpenSpec.ofChange canonComparesSpec)

/-- ITS FALSE NEIGHBOUR: 'it returns false'. Refute it at one input. -/
def canonComparesWrong : ChangeSpec := { name := "canonCompares", fn := fun _ => fun
  | [d1, d2] => { results := [.lit (.bool false)], args := [d1, d2] }
  | _ => none }
def CanonComparesWrongFalsely : Prop := canonComparesRow.holds Tryz.pinned (OpenSpec.ofChange canonComparesWrong)

/-- 'pannierlaw14.CanonLongs': WHATEVER THE INPUT: true; the input reads as it did. -/
def canonLongsSpec : ChangeSpec := { name := "canonLongs", fn := fun _ => fun
  | [d1, d2, d3, d4, d5] => { results := [.lit (.bool true)], args := [d1, d2, d3, d4, d5] }
  | _ => none }
def canonLongsRow : OpenClaim := { program := "ytnkcmaoaagnopaagreatdoor", sum := "82552c23c82999a3b739385fbd19e477b3b37300b3431418dc5713f55944d3a4", func := "pannier/pannierlaw14.CanonLongs", spec := "canonLongs", inPlace := ["internal/bytealg.IndexByteString", "internal/bytealg.IndexString"], unfollowed := true, recurses := true, named := ["unicode/utf8.first", "unicode/utf8.acceptRanges", "internal/bytealg.MaxLen"], apart := false, laid := [("unicode/utf8.acceptRanges", laid_unicode_utf8_acceptRanges), ("unicode/utf8.first", laid_unicode_utf8_first)] }
def CanonLongsSaid : Prop := canonLongsRow.holds Tryz.pinned (OpenSpec.ofChange canonLongsSpec)

/-- ITS FALSE NEIGHBOUR: 'it returns false'. Refute it at one input. -/
def canonLongsWrong : ChangeSpec := { name := "canonLongs", fn := fun _ => fun
  | [d1, d2, d3, d4, d5] => { results := [.lit (.bool false)], args := [d1, d2, d3, d4, d5] }
  | _ => none }
def CanonLongsWrongFalsely : Prop := canonLongsRow.holds Tryz.pinned (OpenSpec.ofChange canonLongsWrong)

/-- 'pannierlaw14.CanonHolds': WHATEVER THE INPUT: true; the input reads as it did. -/
def canonHoldsSpec : ChangeSpec := { name := "canonHolds", fn := fun _ => fun
  | [d1, d2, d3] => { results := [.lit (.bool true)], args := [d1, d2, d3] }
  | _ => none }
def canonHoldsRow : OpenClaim := { program := "ytnkcmaoaagnopaagreatdoor", sum := "82552c23c82999a3b739385fbd19e477b3b37300b3431418dc5713f55944d3a4", func := "pannier/pannierlaw14.CanonHolds", spec := "canonHolds", inPlace := ["internal/bytealg.IndexByteString", "internal/bytealg.IndexString"], unfollowed := true, recurses := true, named := ["unicode/utf8.first", "unicode/utf8.acceptRanges", "internal/bytealg.MaxLen"], apart := false, laid := [("unicode/utf8.acceptRanges", laid_unicode_utf8_acceptRanges), ("unicode/utf8.first", laid_unicode_utf8_first)] }
def CanonHoldsSaid : Prop := canonHoldsRow.holds Tryz.pinned (OpenSpec.ofChange canonHoldsSpec)

/-- ITS FALSE NEIGHBOUR: 'it returns false'. Refute it at one input. -/
def canonHoldsWrong : ChangeSpec := { name := "canonHolds", fn := fun _ => fun
  | [d1, d2, d3] => { results := [.lit (.bool false)], args := [d1, d2, d3] }
  | _ => none }
def CanonHoldsWrongFalsely : Prop := canonHoldsRow.holds Tryz.pinned (OpenSpec.ofChange canonHoldsWrong)

/-- 'pannierlaw15.DecodeReads': WHATEVER THE INPUT: true; the input reads as it did. -/
def decodeReadsSpec : ChangeSpec := { name := "decodeReads", fn := fun _ => fun
  | [d] => { results := [.lit (.bool true)], args := [d] }
  | _ => none }
def decodeReadsRow : OpenClaim := { program := "ytnkcmaoaagnopaagreatdoor", sum := "82552c23c82999a3b739385fbd19e477b3b37300b3431418dc5713f55944d3a4", func := "pannier/pannierlaw15.DecodeReads", spec := "decodeReads", inPlace := ["internal/bytealg.IndexByteString", "internal/bytealg.IndexString"], unfollowed := true, recurses := true, named := ["unicode/utf8.first", "unicode/utf8.acceptRanges", "internal/bytealg.MaxLen"], apart := false, laid := [("unicode/utf8.acceptRanges", laid_unicode_utf8_acceptRanges), ("unicode/utf8.first", laid_unicode_utf8_first)] }
def DecodeReadsSaid : Prop := decodeReadsRow.holds Tryz.pinned (OpenSpec.ofChange decodeReadsSpec)

/-- ITS FALSE NEIGHBOUR: 'it returns false'. Refute it at one input. -/
def decodeReadsWrong : ChangeSpec := { name := "decodeReads", fn := fun _ => fun
  | [d] => { results := [.lit (.bool false)], args := [d] }
  | _ => none }
def DecodeReadsWrongFalsely : Prop := decodeReadsRow.holds Tryz.pinned (OpenSpec.ofChange decodeReadsWrong)

/-- 'pannierlaw15.DecodeSpoilt': WHATEVER THE INPUT: true; the input reads as it did. -/
def decodeSpoiltSpec : ChangeSpec := { name := "decodeSpoilt", fn := fun _ => fun
  | [d1, d2, d3, d4] => { results := [.lit (.bool true)], args := [d1, d2, d3, d4] }
  | _ => none }
def decodeSpoiltRow : OpenClaim := { program := "ytnkcmaoaagnopaagreatdoor", sum := "82552c23c82999a3b739385fbd19e477b3b37300b3431418dc5713f55944d3a4", func := "pannier/pannierlaw15.DecodeSpoilt", spec := "decodeSpoilt", inPlace := ["internal/bytealg.IndexByteString", "internal/bytealg.IndexString"], unfollowed := true, recurses := true, named := ["unicode/utf8.first", "unicode/utf8.acceptRanges", "internal/bytealg.MaxLen"], apart := false, laid := [("unicode/utf8.acceptRanges", laid_unicode_utf8_acceptRanges), ("unicode/utf8.first", laid_unicode_utf8_first)] }
def DecodeSpoiltSaid : Prop := decodeSpoiltRow.holds Tryz.pinned (OpenSpec.ofChange decodeSpoiltSpec)

/-- ITS FALSE NEIGHBOUR: 'it returns false'. Refute it at one input. -/
def decodeSpoiltWrong : ChangeSpec := { name := "decodeSpoilt", fn := fun _ => fun
  | [d1, d2, d3, d4] => { results := [.lit (.bool false)], args := [d1, d2, d3, d4] }
  | _ => none }
def DecodeSpoiltWrongFalsely : Prop := decodeSpoiltRow.holds Tryz.pinned (OpenSpec.ofChange decodeSpoiltWrong)

/-- 'pannierlaw15.DecodeCounts': WHATEVER THE INPUT: true; the input reads as it did. -/
def decodeCountsSpec : ChangeSpec := { name := "decodeCounts", fn := fun _ => fun
  | [d1, d2] => { results := [.lit (.bool true)], args := [d1, d2] }
  | _ => none }
def decodeCountsRow : OpenClaim := { program := "ytnkcmaoaagnopaagreatdoor", sum := "82552c23c82999a3b739385fbd19e477b3b37300b3431418dc5713f55944d3a4", func := "pannier/pannierlaw15.DecodeCounts", spec := "decodeCounts", inPlace := ["internal/bytealg.IndexByteString", "internal/bytealg.IndexString"], unfollowed := true, recurses := true, named := ["unicode/utf8.first", "unicode/utf8.acceptRanges", "internal/bytealg.MaxLen"], apart := false, laid := [("unicode/utf8.acceptRanges", laid_unicode_utf8_acceptRanges), ("unicode/utf8.first", laid_unicode_utf8_first)] }
def DecodeCountsSaid : Prop := decodeCountsRow.holds Tryz.pinned (OpenSpec.ofChange decodeCountsSpec)

/-- ITS FALSE NEIGHBOUR: 'it returns false'. Refute it at one input. -/
def decodeCountsWrong : ChangeSpec := { name := "decodeCounts", fn := fun _ => fun
  | [d1, d2] => { results := [.lit (.bool false)], args := [d1, d2] }
  | _ => none }
def DecodeCountsWrongFalsely : Prop := decodeCountsRow.holds Tryz.pinned (OpenSpec.ofChange decodeCountsWrong)

/-- 'pannierlaw15.DecodeGreats': WHATEVER THE INPUT: true; the input reads as it did. -/
def decodeGreatsSpec : ChangeSpec := { name := "decodeGreats", fn := fun _ => fun
  | [d1, d2, d3] => { results := [.lit (.bool true)], args := [d1, d2, d3] }
  | _ => none }
def decodeGreatsRow : OpenClaim := { program := "ytnkcmaoaagnopaagreatdoor", sum := "82552c23c82999a3b739385fbd19e477b3b37300b3431418dc5713f55944d3a4", func := "pannier/pannierlaw15.DecodeGreats", spec := "decodeGreats", inPlace := ["internal/bytealg.IndexByteString", "internal/bytealg.IndexString"], unfollowed := true, recurses := true, named := ["unicode/utf8.first", "unicode/utf8.acceptRanges", "internal/bytealg.MaxLen"], apart := false, laid := [("unicode/utf8.acceptRanges", laid_unicode_utf8_acceptRanges), ("unicode/utf8.first", laid_unicode_utf8_first)] }
def DecodeGreatsSaid : Prop := decodeGreatsRow.holds Tryz.pinned (OpenSpec.ofChange decodeGreatsSpec)

/-- ITS FALSE NEIGHBOUR: 'it returns false'. Refute it at one input. -/
def decodeGreatsWrong : ChangeSpec := { name := "decodeGreats", fn := fun _ => fun
  | [d1, d2, d3] => { results := [.lit (.bool false)], args := [d1, d2, d3] }
  | _ => none }
def DecodeGreatsWrongFalsely : Prop := decodeGreatsRow.holds Tryz.pinned (OpenSpec.ofChange decodeGreatsWrong)

/-- 'pannierlaw15.DecodeHolds': WHATEVER THE INPUT: true; the input reads as it did. -/
def decodeHoldsSpec : ChangeSpec := { name := "decodeHolds", fn := fun _ => fun
  | [d1, d2] => { results := [.lit (.bool true)], args := [d1, d2] }
  | _ => none }
def decodeHoldsRow : OpenClaim := { program := "ytnkcmaoaagnopaagreatdoor", sum := "82552c23c82999a3b739385fbd19e477b3b37300b3431418dc5713f55944d3a4", func := "pannier/pannierlaw15.DecodeHolds", spec := "decodeHolds", inPlace := ["internal/bytealg.IndexByteString", "internal/bytealg.IndexString"], unfollowed := true, recurses := true, named := ["unicode/utf8.first", "unicode/utf8.acceptRanges", "internal/bytealg.MaxLen"], apart := false, laid := [("unicode/utf8.acceptRanges", laid_unicode_utf8_acceptRanges), ("unicode/utf8.first", laid_unicode_utf8_first)] }
def DecodeHoldsSaid : Prop := decodeHoldsRow.holds Tryz.pinned (OpenSpec.ofChange decodeHoldsSpec)

/-- ITS FALSE NEIGHBOUR: 'it returns false'. Refute it at one input. -/
def decodeHoldsWrong : ChangeSpec := { name := "decodeHolds", fn := fun _ => fun
  | [d1, d2] => { results := [.lit (.bool false)], args := [d1, d2] }
  | _ => none }
def DecodeHoldsWrongFalsely : Prop := decodeHoldsRow.holds Tryz.pinned (OpenSpec.ofChange decodeHoldsWrong)

/- THE SECOND FORM. 'bulk': how many values and letters a reading holds, each counted each time it is reached (what is shared counts as often as it is met; a slice's spare places count too). A statement '..UptoSaid' is the law's where the arguments, and the package variables that the reading takes, are together of bulk at most 1048576: NARROWER than '..Said'. Prove '..Said' where nothing that the law and all that it calls make is longer than what came in: it says more and counts as full. Else prove '..UptoSaid'. A law counts once. -/
mutual
def uptoBulk {H : Type} : DataW H → Nat
  | .lit (.string bytes) => bytes.length + 1
  | .lit _ => 1
  | .nil => 1
  | .ptr d => uptoBulk d + 1
  | .slice elems spare => uptoBulkAll elems + uptoBulkAll spare + 1
  | .agg parts => uptoBulkAll parts + 1
  | .iface _ d => uptoBulk d + 1
  | .map entries => uptoBulkEntries entries + 1
  | .held _ => 1
def uptoBulkAll {H : Type} : List (DataW H) → Nat
  | [] => 0
  | d :: r => uptoBulk d + uptoBulkAll r
def uptoBulkEntries {H : Type} : List (Lit × DataW H) → Nat
  | [] => 0
  | x :: r => uptoBulkEntry x + uptoBulkEntries r
def uptoBulkEntry {H : Type} : Lit × DataW H → Nat
  | (.string bytes, d) => bytes.length + uptoBulk d + 1
  | (_, d) => uptoBulk d + 1
 end
def uptoSmall : (H : Type) → List (DataW H) → Bool := fun _ ds => decide (uptoBulkAll ds ≤ 1048576)
def OpenSpec.upto (s : _root_.Go.ChangeSpec) : _root_.Go.OpenSpec := { _root_.Go.OpenSpec.ofChange s with cond := some uptoSmall }

/-- 'pannierlaw14.CanonEncodes', WHERE WHAT IT READS IS OF BULK AT MOST 1048576: true; the input reads as it did. -/
def canonEncodesUptoRow : OpenClaim := { program := "ytnkcmaoaagnopaagreatdoor", sum := "82552c23c82999a3b739385fbd19e477b3b37300b3431418dc5713f55944d3a4", func := "pannier/pannierlaw14.CanonEncodes", spec := "canonEncodes", inPlace := ["internal/bytealg.IndexByteString", "internal/bytealg.IndexString"], unfollowed := true, recurses := true, named := ["unicode/utf8.first", "unicode/utf8.acceptRanges", "internal/bytealg.MaxLen"], apart := false, laid := [("unicode/utf8.acceptRanges", laid_unicode_utf8_acceptRanges), ("unicode/utf8.first", laid_unicode_utf8_first)], narrowed := true }
def CanonEncodesUptoSaid : Prop := canonEncodesUptoRow.holds Tryz.pinned (OpenSpec.upto canonEncodesSpec)

/-- 'pannierlaw14.CanonAppends', WHERE WHAT IT READS IS OF BULK AT MOST 1048576: true; the input reads as it did. -/
def canonAppendsUptoRow : OpenClaim := { program := "ytnkcmaoaagnopaagreatdoor", sum := "82552c23c82999a3b739385fbd19e477b3b37300b3431418dc5713f55944d3a4", func := "pannier/pannierlaw14.CanonAppends", spec := "canonAppends", inPlace := ["internal/bytealg.IndexByteString", "internal/bytealg.IndexString"], unfollowed := true, recurses := true, named := ["unicode/utf8.first", "unicode/utf8.acceptRanges", "internal/bytealg.MaxLen"], apart := false, laid := [("unicode/utf8.acceptRanges", laid_unicode_utf8_acceptRanges), ("unicode/utf8.first", laid_unicode_utf8_first)], narrowed := true }
def CanonAppendsUptoSaid : Prop := canonAppendsUptoRow.holds Tryz.pinned (OpenSpec.upto canonAppendsSpec)

/-- 'pannierlaw14.CanonCompares', WHERE WHAT IT READS IS OF BULK AT MOST 1048576: true; the input reads as it did. -/
def canonComparesUptoRow : OpenClaim := { program := "ytnkcmaoaagnopaagreatdoor", sum := "82552c23c82999a3b739385fbd19e477b3b37300b3431418dc5713f55944d3a4", func := "pannier/pannierlaw14.CanonCompares", spec := "canonCompares", inPlace := ["internal/bytealg.IndexByteString", "internal/bytealg.IndexString"], unfollowed := true, recurses := true, named := ["unicode/utf8.first", "unicode/utf8.acceptRanges", "internal/bytealg.MaxLen"], apart := false, laid := [("unicode/utf8.acceptRanges", laid_unicode_utf8_acceptRanges), ("unicode/utf8.first", laid_unicode_utf8_first)], narrowed := true }
def CanonComparesUptoSaid : Prop := canonComparesUptoRow.holds Tryz.pinned (OpenSpec.upto canonComparesSpec)

/-- 'pannierlaw14.CanonLongs', WHERE WHAT IT READS IS OF BULK AT MOST 1048576: true; the input reads as it did. -/
def canonLongsUptoRow : OpenClaim := { program := "ytnkcmaoaagnopaagreatdoor", sum := "82552c23c82999a3b739385fbd19e477b3b37300b3431418dc5713f55944d3a4", func := "pannier/pannierlaw14.CanonLongs", spec := "canonLongs", inPlace := ["internal/bytealg.IndexByteString", "internal/bytealg.IndexString"], unfollowed := true, recurses := true, named := ["unicode/utf8.first", "unicode/utf8.acceptRanges", "internal/bytealg.MaxLen"], apart := false, laid := [("unicode/utf8.acceptRanges", laid_unicode_utf8_acceptRanges), ("unicode/utf8.first", laid_unicode_utf8_first)], narrowed := true }
def CanonLongsUptoSaid : Prop := canonLongsUptoRow.holds Tryz.pinned (OpenSpec.upto canonLongsSpec)

/-- 'pannierlaw14.CanonHolds', WHERE WHAT IT READS IS OF BULK AT MOST 1048576: true; the input reads as it did. -/
def canonHoldsUptoRow : OpenClaim := { program := "ytnkcmaoaagnopaagreatdoor", sum := "82552c23c82999a3b739385fbd19e477b3b37300b3431418dc5713f55944d3a4", func := "pannier/pannierlaw14.CanonHolds", spec := "canonHolds", inPlace := ["internal/bytealg.IndexByteString", "internal/bytealg.IndexString"], unfollowed := true, recurses := true, named := ["unicode/utf8.first", "unicode/utf8.acceptRanges", "internal/bytealg.MaxLen"], apart := false, laid := [("unicode/utf8.acceptRanges", laid_unicode_utf8_acceptRanges), ("unicode/utf8.first", laid_unicode_utf8_first)], narrowed := true }
def CanonHoldsUptoSaid : Prop := canonHoldsUptoRow.holds Tryz.pinned (OpenSpec.upto canonHoldsSpec)

/-- 'pannierlaw15.DecodeReads', WHERE WHAT IT READS IS OF BULK AT MOST 1048576: true; the input reads as it did. -/
def decodeReadsUptoRow : OpenClaim := { program := "ytnkcmaoaagnopaagreatdoor", sum := "82552c23c82999a3b739385fbd19e477b3b37300b3431418dc5713f55944d3a4", func := "pannier/pannierlaw15.DecodeReads", spec := "decodeReads", inPlace := ["internal/bytealg.IndexByteString", "internal/bytealg.IndexString"], unfollowed := true, recurses := true, named := ["unicode/utf8.first", "unicode/utf8.acceptRanges", "internal/bytealg.MaxLen"], apart := false, laid := [("unicode/utf8.acceptRanges", laid_unicode_utf8_acceptRanges), ("unicode/utf8.first", laid_unicode_utf8_first)], narrowed := true }
def DecodeReadsUptoSaid : Prop := decodeReadsUptoRow.holds Tryz.pinned (OpenSpec.upto decodeReadsSpec)

/-- 'pannierlaw15.DecodeSpoilt', WHERE WHAT IT READS IS OF BULK AT MOST 1048576: true; the input reads as it did. -/
def decodeSpoiltUptoRow : OpenClaim := { program := "ytnkcmaoaagnopaagreatdoor", sum := "82552c23c82999a3b739385fbd19e477b3b37300b3431418dc5713f55944d3a4", func := "pannier/pannierlaw15.DecodeSpoilt", spec := "decodeSpoilt", inPlace := ["internal/bytealg.IndexByteString", "internal/bytealg.IndexString"], unfollowed := true, recurses := true, named := ["unicode/utf8.first", "unicode/utf8.acceptRanges", "internal/bytealg.MaxLen"], apart := false, laid := [("unicode/utf8.acceptRanges", laid_unicode_utf8_acceptRanges), ("unicode/utf8.first", laid_unicode_utf8_first)], narrowed := true }
def DecodeSpoiltUptoSaid : Prop := decodeSpoiltUptoRow.holds Tryz.pinned (OpenSpec.upto decodeSpoiltSpec)

/-- 'pannierlaw15.DecodeCounts', WHERE WHAT IT READS IS OF BULK AT MOST 1048576: true; the input reads as it did. -/
def decodeCountsUptoRow : OpenClaim := { program := "ytnkcmaoaagnopaagreatdoor", sum := "82552c23c82999a3b739385fbd19e477b3b37300b3431418dc5713f55944d3a4", func := "pannier/pannierlaw15.DecodeCounts", spec := "decodeCounts", inPlace := ["internal/bytealg.IndexByteString", "internal/bytealg.IndexString"], unfollowed := true, recurses := true, named := ["unicode/utf8.first", "unicode/utf8.acceptRanges", "internal/bytealg.MaxLen"], apart := false, laid := [("unicode/utf8.acceptRanges", laid_unicode_utf8_acceptRanges), ("unicode/utf8.first", laid_unicode_utf8_first)], narrowed := true }
def DecodeCountsUptoSaid : Prop := decodeCountsUptoRow.holds Tryz.pinned (OpenSpec.upto decodeCountsSpec)

/-- 'pannierlaw15.DecodeGreats', WHERE WHAT IT READS IS OF BULK AT MOST 1048576: true; the input reads as it did. -/
def decodeGreatsUptoRow : OpenClaim := { program := "ytnkcmaoaagnopaagreatdoor", sum := "82552c23c82999a3b739385fbd19e477b3b37300b3431418dc5713f55944d3a4", func := "pannier/pannierlaw15.DecodeGreats", spec := "decodeGreats", inPlace := ["internal/bytealg.IndexByteString", "internal/bytealg.IndexString"], unfollowed := true, recurses := true, named := ["unicode/utf8.first", "unicode/utf8.acceptRanges", "internal/bytealg.MaxLen"], apart := false, laid := [("unicode/utf8.acceptRanges", laid_unicode_utf8_acceptRanges), ("unicode/utf8.first", laid_unicode_utf8_first)], narrowed := true }
def DecodeGreatsUptoSaid : Prop := decodeGreatsUptoRow.holds Tryz.pinned (OpenSpec.upto decodeGreatsSpec)

/-- 'pannierlaw15.DecodeHolds', WHERE WHAT IT READS IS OF BULK AT MOST 1048576: true; the input reads as it did. -/
def decodeHoldsUptoRow : OpenClaim := { program := "ytnkcmaoaagnopaagreatdoor", sum := "82552c23c82999a3b739385fbd19e477b3b37300b3431418dc5713f55944d3a4", func := "pannier/pannierlaw15.DecodeHolds", spec := "decodeHolds", inPlace := ["internal/bytealg.IndexByteString", "internal/bytealg.IndexString"], unfollowed := true, recurses := true, named := ["unicode/utf8.first", "unicode/utf8.acceptRanges", "internal/bytealg.MaxLen"], apart := false, laid := [("unicode/utf8.acceptRanges", laid_unicode_utf8_acceptRanges), ("unicode/utf8.first", laid_unicode_utf8_first)], narrowed := true }
def DecodeHoldsUptoSaid : Prop := decodeHoldsUptoRow.holds Tryz.pinned (OpenSpec.upto decodeHoldsSpec)

end Rows
end Go.Proofs.YtnkcmaoaagnopaaGreatDoor
