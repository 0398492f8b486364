/-
  NARROWER THAN 'FOR EVERY INPUT', by the rows' own cells (each row's printed sentence says how): DiscountApplies: laid · DiscountBest: laid · DiscountTogether: laid · DiscountMeans: laid · DiscountHolds: laid.
  DERIVED. THE GIVEN ROWS OF THIS SEAT. 5 by the template 'for every input the law returns true; each argument reads behind the call as it read before'; 0 by the template 'total and deterministic' (their statements: YtbadfphdniliaaaGreatDoorTotals.lean).
  GIVEN WITH THE SEED: the statements are not yours to turn. If you find one false, say at which input.
  Laid BY PROGRAM, IN A SANDBOX (cutbox-rows.mjs): the forced cells as the released guide's own fill.sh prints them over the translation 05e1dd15d456fa60… (all of the seat's roots in one cut). By AI agents, Wed Nov 11 2026. No macro, syntax, notation, axiom, sorry.
-/
import Derived.Test.YtbadfphdniliaaaGreatDoorChecked
import GoSem.PinnedTables
import GoSem.Claim
import GoSem.ClaimJoined
import GoSem.ClaimMapViews
import Derived.JoinedTies
import Derived.KernelRfl
namespace Go.Proofs.YtbadfphdniliaaaGreatDoor
/- THE CELL 'sum', in the pinned program and in every row, IS THE sha256 OF THE DUMP (.gsa) THAT YtbadfphdniliaaaGreatDoorProg.lean LOADS. Nothing in Lean hashes anything: it is a label: what it is worth is what the hold of that sum in a sandbox is worth. -/
noncomputable def Tryz.pinned : Pinned := { name := "ytbadfphdniliaaagreatdoor", sum := "05e1dd15d456fa60a5ff2b38768ff4d27a988b6f0180d28f3eadc0f3482ae4ae", checked := Tryz.checked }
namespace Rows
def none {H : Type} : Left H := { results := [], args := [] }

/- WHAT THE LISTED PACKAGE-LEVEL VARIABLES READ AS WHEN THE CALL BEGINS. Each datum BY PROGRAM (the guide's laid-datum.mjs) off the statement by which the dump's own 'gosem.cut.vars' lays the variable. In a bare row this is a premise. The card (YtbadfphdniliaaaGreatDoorCards.lean) ties it to the program's text. -/
def laid_unicode_utf8_acceptRanges {H : Type} : DataW H := .agg [.agg [.lit (.int .u8 128), .lit (.int .u8 191)], .agg [.lit (.int .u8 160), .lit (.int .u8 191)], .agg [.lit (.int .u8 128), .lit (.int .u8 159)], .agg [.lit (.int .u8 144), .lit (.int .u8 191)], .agg [.lit (.int .u8 128), .lit (.int .u8 143)], .agg [.lit (.int .u8 0), .lit (.int .u8 0)], .agg [.lit (.int .u8 0), .lit (.int .u8 0)], .agg [.lit (.int .u8 0), .lit (.int .u8 0)], .agg [.lit (.int .u8 0), .lit (.int .u8 0)], .agg [.lit (.int .u8 0), .lit (.int .u8 0)], .agg [.lit (.int .u8 0), .lit (.int .u8 0)], .agg [.lit (.int .u8 0), .lit (.int .u8 0)], .agg [.lit (.int .u8 0), .lit (.int .u8 0)], .agg [.lit (.int .u8 0), .lit (.int .u8 0)], .agg [.lit (.int .u8 0), .lit (.int .u8 0)], .agg [.lit (.int .u8 0), .lit (.int .u8 0)]]
/-- One of Go's own tables, pinned by name: the form's constant. -/
def laid_unicode_utf8_first : DataW Unit := Go.Pinned.utf8First

/-- 'pannierlaw44.DiscountApplies': WHATEVER THE INPUT: true; the input reads as it did. -/
def discountAppliesSpec : ChangeSpec := { name := "discountApplies", fn := fun _ => fun
  | [d1, d2, d3, d4] => { results := [.lit (.bool true)], args := [d1, d2, d3, d4] }
  | _ => none }
def discountAppliesRow : OpenClaim := { program := "ytbadfphdniliaaagreatdoor", sum := "05e1dd15d456fa60a5ff2b38768ff4d27a988b6f0180d28f3eadc0f3482ae4ae", func := "pannier/pannierlaw44.DiscountApplies", spec := "discountApplies", inPlace := ["internal/bytealg.IndexByteString", "internal/bytealg.IndexString", "math.Float64frombits", "math.archFloor", "math.Float64bits", "math.archTrunc"], unfollowed := true, recurses := true, named := ["unicode/utf8.first", "unicode/utf8.acceptRanges", "internal/bytealg.MaxLen"], apart := false, laid := [("unicode/utf8.acceptRanges", laid_unicode_utf8_acceptRanges), ("unicode/utf8.first", laid_unicode_utf8_first)] }
def DiscountAppliesSaid : Prop := discountAppliesRow.holds Tryz.pinned (OpenSpec.ofChange discountAppliesSpec)

/-- ITS FALSE NEIGHBOUR: 'it returns false'. Refute it at one input. -/
def discountAppliesWrong : ChangeSpec := { name := "discountApplies", fn := fun _ => fun
  | [d1, d2, d3, d4] => { results := [.lit (.bool false)], args := [d1, d2, d3, d4] }
  | _ => none }
def DiscountAppliesWrongFalsely : Prop := discountAppliesRow.holds Tryz.pinned (OpenSpec.ofChange discountAppliesWrong)

/-- 'pannierlaw44.DiscountBest': WHATEVER THE INPUT: true; the input reads as it did. -/
def discountBestSpec : ChangeSpec := { name := "discountBest", fn := fun _ => fun
  | [d1, d2, d3] => { results := [.lit (.bool true)], args := [d1, d2, d3] }
  | _ => none }
def discountBestRow : OpenClaim := { program := "ytbadfphdniliaaagreatdoor", sum := "05e1dd15d456fa60a5ff2b38768ff4d27a988b6f0180d28f3eadc0f3482ae4ae", func := "pannier/pannierlaw44.DiscountBest", spec := "discountBest", inPlace := ["math.Float64bits", "math.Float64frombits", "math.archFloor", "math.archTrunc", "internal/bytealg.IndexByteString", "internal/bytealg.IndexString"], unfollowed := true, recurses := true, named := ["unicode/utf8.first", "unicode/utf8.acceptRanges", "internal/bytealg.MaxLen"], apart := false, laid := [("unicode/utf8.acceptRanges", laid_unicode_utf8_acceptRanges), ("unicode/utf8.first", laid_unicode_utf8_first)] }
def DiscountBestSaid : Prop := discountBestRow.holds Tryz.pinned (OpenSpec.ofChange discountBestSpec)

/-- ITS FALSE NEIGHBOUR: 'it returns false'. Refute it at one input. -/
def discountBestWrong : ChangeSpec := { name := "discountBest", fn := fun _ => fun
  | [d1, d2, d3] => { results := [.lit (.bool false)], args := [d1, d2, d3] }
  | _ => none }
def DiscountBestWrongFalsely : Prop := discountBestRow.holds Tryz.pinned (OpenSpec.ofChange discountBestWrong)

/-- 'pannierlaw44.DiscountTogether': WHATEVER THE INPUT: true; the input reads as it did. -/
def discountTogetherSpec : ChangeSpec := { name := "discountTogether", fn := fun _ => fun
  | [d1, d2, d3] => { results := [.lit (.bool true)], args := [d1, d2, d3] }
  | _ => none }
def discountTogetherRow : OpenClaim := { program := "ytbadfphdniliaaagreatdoor", sum := "05e1dd15d456fa60a5ff2b38768ff4d27a988b6f0180d28f3eadc0f3482ae4ae", func := "pannier/pannierlaw44.DiscountTogether", spec := "discountTogether", inPlace := ["math.Float64bits", "math.Float64frombits", "math.archFloor", "math.archTrunc", "internal/bytealg.IndexByteString", "internal/bytealg.IndexString"], unfollowed := true, recurses := true, named := ["unicode/utf8.first", "unicode/utf8.acceptRanges", "internal/bytealg.MaxLen"], apart := false, laid := [("unicode/utf8.acceptRanges", laid_unicode_utf8_acceptRanges), ("unicode/utf8.first", laid_unicode_utf8_first)] }
def DiscountTogetherSaid : Prop := discountTogetherRow.holds Tryz.pinned (OpenSpec.ofChange discountTogetherSpec)

/-- ITS FALSE NEIGHBOUR: 'it returns false'. Refute it at one input. -/
def discountTogetherWrong : ChangeSpec := { name := "discountTogether", fn := fun _ => fun
  | [d1, d2, d3] => { results := [.lit (.bool false)], args := [d1, d2, d3] }
  | _ => none }
def DiscountTogetherWrongFalsely : Prop := discountTogetherRow.holds Tryz.pinned (OpenSpec.ofChange discountTogetherWrong)

/-- 'pannierlaw44.DiscountMeans': WHATEVER THE INPUT: true; the input reads as it did. -/
def discountMeansSpec : ChangeSpec := { name := "discountMeans", fn := fun _ => fun
  | [d] => { results := [.lit (.bool true)], args := [d] }
  | _ => none }
def discountMeansRow : OpenClaim := { program := "ytbadfphdniliaaagreatdoor", sum := "05e1dd15d456fa60a5ff2b38768ff4d27a988b6f0180d28f3eadc0f3482ae4ae", func := "pannier/pannierlaw44.DiscountMeans", spec := "discountMeans", inPlace := ["math.Float64bits", "math.Float64frombits", "math.archFloor", "math.archTrunc", "internal/bytealg.IndexByteString", "internal/bytealg.IndexString"], unfollowed := true, recurses := true, named := ["unicode/utf8.first", "unicode/utf8.acceptRanges", "internal/bytealg.MaxLen"], apart := false, laid := [("unicode/utf8.acceptRanges", laid_unicode_utf8_acceptRanges), ("unicode/utf8.first", laid_unicode_utf8_first)] }
def DiscountMeansSaid : Prop := discountMeansRow.holds Tryz.pinned (OpenSpec.ofChange discountMeansSpec)

/-- ITS FALSE NEIGHBOUR: 'it returns false'. Refute it at one input. -/
def discountMeansWrong : ChangeSpec := { name := "discountMeans", fn := fun _ => fun
  | [d] => { results := [.lit (.bool false)], args := [d] }
  | _ => none }
def DiscountMeansWrongFalsely : Prop := discountMeansRow.holds Tryz.pinned (OpenSpec.ofChange discountMeansWrong)

/-- 'pannierlaw44.DiscountHolds': WHATEVER THE INPUT: true; the input reads as it did. -/
def discountHoldsSpec : ChangeSpec := { name := "discountHolds", fn := fun _ => fun
  | [d1, d2, d3, d4, d5, d6, d7, d8] => { results := [.lit (.bool true)], args := [d1, d2, d3, d4, d5, d6, d7, d8] }
  | _ => none }
def discountHoldsRow : OpenClaim := { program := "ytbadfphdniliaaagreatdoor", sum := "05e1dd15d456fa60a5ff2b38768ff4d27a988b6f0180d28f3eadc0f3482ae4ae", func := "pannier/pannierlaw44.DiscountHolds", spec := "discountHolds", inPlace := ["internal/bytealg.IndexByteString", "internal/bytealg.IndexString", "math.Float64bits", "math.Float64frombits", "math.archFloor", "math.archTrunc"], unfollowed := true, recurses := true, named := ["unicode/utf8.first", "unicode/utf8.acceptRanges", "internal/bytealg.MaxLen"], apart := false, laid := [("unicode/utf8.acceptRanges", laid_unicode_utf8_acceptRanges), ("unicode/utf8.first", laid_unicode_utf8_first)] }
def DiscountHoldsSaid : Prop := discountHoldsRow.holds Tryz.pinned (OpenSpec.ofChange discountHoldsSpec)

/-- ITS FALSE NEIGHBOUR: 'it returns false'. Refute it at one input. -/
def discountHoldsWrong : ChangeSpec := { name := "discountHolds", fn := fun _ => fun
  | [d1, d2, d3, d4, d5, d6, d7, d8] => { results := [.lit (.bool false)], args := [d1, d2, d3, d4, d5, d6, d7, d8] }
  | _ => none }
def DiscountHoldsWrongFalsely : Prop := discountHoldsRow.holds Tryz.pinned (OpenSpec.ofChange discountHoldsWrong)

/- THE SECOND FORM. 'bulk': how many values and letters a reading holds, each counted each time it is reached (what is shared counts as often as it is met; a slice's spare places count too). A statement '..UptoSaid' is the law's where the arguments, and the package variables that the reading takes, are together of bulk at most 1048576: NARROWER than '..Said'. Prove '..Said' where nothing that the law and all that it calls make is longer than what came in: it says more and counts as full. Else prove '..UptoSaid'. A law counts once. -/
mutual
def uptoBulk {H : Type} : DataW H → Nat
  | .lit (.string bytes) => bytes.length + 1
  | .lit _ => 1
  | .nil => 1
  | .ptr d => uptoBulk d + 1
  | .slice elems spare => uptoBulkAll elems + uptoBulkAll spare + 1
  | .agg parts => uptoBulkAll parts + 1
  | .iface _ d => uptoBulk d + 1
  | .map entries => uptoBulkEntries entries + 1
  | .held _ => 1
def uptoBulkAll {H : Type} : List (DataW H) → Nat
  | [] => 0
  | d :: r => uptoBulk d + uptoBulkAll r
def uptoBulkEntries {H : Type} : List (Lit × DataW H) → Nat
  | [] => 0
  | x :: r => uptoBulkEntry x + uptoBulkEntries r
def uptoBulkEntry {H : Type} : Lit × DataW H → Nat
  | (.string bytes, d) => bytes.length + uptoBulk d + 1
  | (_, d) => uptoBulk d + 1
 end
def uptoSmall : (H : Type) → List (DataW H) → Bool := fun _ ds => decide (uptoBulkAll ds ≤ 1048576)
def OpenSpec.upto (s : _root_.Go.ChangeSpec) : _root_.Go.OpenSpec := { _root_.Go.OpenSpec.ofChange s with cond := some uptoSmall }

/-- 'pannierlaw44.DiscountApplies', WHERE WHAT IT READS IS OF BULK AT MOST 1048576: true; the input reads as it did. -/
def discountAppliesUptoRow : OpenClaim := { program := "ytbadfphdniliaaagreatdoor", sum := "05e1dd15d456fa60a5ff2b38768ff4d27a988b6f0180d28f3eadc0f3482ae4ae", func := "pannier/pannierlaw44.DiscountApplies", spec := "discountApplies", inPlace := ["internal/bytealg.IndexByteString", "internal/bytealg.IndexString", "math.Float64frombits", "math.archFloor", "math.Float64bits", "math.archTrunc"], unfollowed := true, recurses := true, named := ["unicode/utf8.first", "unicode/utf8.acceptRanges", "internal/bytealg.MaxLen"], apart := false, laid := [("unicode/utf8.acceptRanges", laid_unicode_utf8_acceptRanges), ("unicode/utf8.first", laid_unicode_utf8_first)], narrowed := true }
def DiscountAppliesUptoSaid : Prop := discountAppliesUptoRow.holds Tryz.pinned (OpenSpec.upto discountAppliesSpec)

/-- 'pannierlaw44.DiscountBest', WHERE WHAT IT READS IS OF BULK AT MOST 1048576: true; the input reads as it did. -/
def discountBestUptoRow : OpenClaim := { program := "ytbadfphdniliaaagreatdoor", sum := "05e1dd15d456fa60a5ff2b38768ff4d27a988b6f0180d28f3eadc0f3482ae4ae", func := "pannier/pannierlaw44.DiscountBest", spec := "discountBest", inPlace := ["math.Float64bits", "math.Float64frombits", "math.archFloor", "math.archTrunc", "internal/bytealg.IndexByteString", "internal/bytealg.IndexString"], unfollowed := true, recurses := true, named := ["unicode/utf8.first", "unicode/utf8.acceptRanges", "internal/bytealg.MaxLen"], apart := false, laid := [("unicode/utf8.acceptRanges", laid_unicode_utf8_acceptRanges), ("unicode/utf8.first", laid_unicode_utf8_first)], narrowed := true }
def DiscountBestUptoSaid : Prop := discountBestUptoRow.holds Tryz.pinned (OpenSpec.upto discountBestSpec)

/-- 'pannierlaw44.DiscountTogether', WHERE WHAT IT READS IS OF BULK AT MOST 1048576: true; the input reads as it did. -/
def discountTogetherUptoRow : OpenClaim := { program := "ytbadfphdniliaaagreatdoor", sum := "05e1dd15d456fa60a5ff2b38768ff4d27a988b6f0180d28f3eadc0f3482ae4ae", func := "pannier/pannierlaw44.DiscountTogether", spec := "discountTogether", inPlace := ["math.Float64bits", "math.Float64frombits", "math.archFloor", "math.archTrunc", "internal/bytealg.IndexByteString", "internal/bytealg.IndexString"], unfollowed := true, recurses := true, named := ["unicode/utf8.first", "unicode/utf8.acceptRanges", "internal/bytealg.MaxLen"], apart := false, laid := [("unicode/utf8.acceptRanges", laid_unicode_utf8_acceptRanges), ("unicode/utf8.first", laid_unicode_utf8_first)], narrowed := true }
def DiscountTogetherUptoSaid : Prop := discountTogetherUptoRow.holds Tryz.pinned (OpenSpec.upto discountTogetherSpec)

/-- 'pannierlaw44.DiscountMeans', WHERE WHAT IT READS IS OF BULK AT MOST 1048576: true; the input reads as it did. -/
def discountMeansUptoRow : OpenClaim := { program := "ytbadfphdniliaaagreatdoor", sum := "05e1dd15d456fa60a5ff2b38768ff4d27a988b6f0180d28f3eadc0f3482ae4ae", func := "pannier/pannierlaw44.DiscountMeans", spec := "discountMeans", inPlace := ["math.Float64bits", "math.Float64frombits", "math.archFloor", "math.archTrunc", "internal/bytealg.IndexByteString", "internal/bytealg.IndexString"], unfollowed := true, recurses := true, named := ["unicode/utf8.first", "unicode/utf8.acceptRanges", "internal/bytealg.MaxLen"], apart := false, laid := [("unicode/utf8.acceptRanges", laid_unicode_utf8_acceptRanges), ("unicode/utf8.first", laid_unicode_utf8_first)], narrowed := true }
def DiscountMeansUptoSaid : Prop := discountMeansUptoRow.holds Tryz.pinned (OpenSpec.upto discountMeansSpec)

/-- 'pannierlaw44.DiscountHolds', WHERE WHAT IT READS IS OF BULK AT MOST 1048576: true; the input reads as it did. -/
def discountHoldsUptoRow : OpenClaim := { program := "ytbadfphdniliaaagreatdoor", sum := "05e1dd15d456fa60a5ff2b38768ff4d27a988b6f0180d28f3eadc0f3482ae4ae", func := "pannier/pannierlaw44.DiscountHolds", spec := "discountHolds", inPlace := ["internal/bytealg.IndexByteString", "internal/bytealg.IndexString", "math.Float64bits", "math.Float64frombits", "math.archFloor", "math.archTrunc"], unfollowed := true, recurses := true, named := ["unicode/utf8.first", "unicode/utf8.acceptRanges", "internal/bytealg.MaxLen"], apart := false, laid := [("unicode/utf8.acceptRanges", laid_unicode_utf8_acceptRanges), ("unicode/utf8.first", laid_unicode_utf8_first)], narrowed := true }
def DiscountHoldsUptoSaid : Prop := discountHoldsUptoRow.holds Tryz.pinned (OpenSpec.upto discountHoldsSpec)

end Rows
end Go.Proofs.YtbadfphdniliaaaGreatDoor
