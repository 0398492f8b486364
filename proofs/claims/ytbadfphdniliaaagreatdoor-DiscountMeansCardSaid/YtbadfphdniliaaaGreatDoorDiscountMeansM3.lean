/-
 DERIVED: THE SHELF's CONTRACTS AT THIS DUMP, IN PLAIN WORDS (tools/lay-plain.mjs out of 'TryzShelfP.lean', which tools/lay-shelf.mjs wrote): THE SAME DECLARATIONS UNDER THE SAME NAMES: 'import', 'namespace', 'open', 'def', 'theorem' AND NOTHING ELSE: no command of the shelf's: FOR A HAND-IN. Each laying: the table of numbers ('.._ren') and one theorem, a field a fact of the dump's own or the kernel's comparison; each contract: ONE APPLICATION.
-/
import Derived.Shelf.Strings.Trim
import Derived.Shelf.Small.Utf8
import Derived.Shelf.Small.Bits
import Derived.Shelf.Small.Strs
import Derived.Shelf.Small.Wraps
import Derived.Shelf.Strconv.Itoa0
import Derived.Shelf.Strings.Search1
import Derived.Shelf.Strings.Search2
import Derived.Shelf.Strings.Search3
import Derived.Shelf.LaysM
import Derived.Shelf.Strings.Shaped
import Derived.Shelf.Unicode.Decode
import Derived.Shelf.Strings.Runes
import Derived.Shelf.Strings.AsciiSet
import Derived.Shelf.Unicode.DecodeSlow
import Derived.Shelf.Unicode.DecodeAny
import Derived.Ground.Names2Prog
import Derived.Shelf.Slices.SearchI
import Derived.Ground.SlsfProg
import Derived.Shelf.SlSortCmp.Insertion
import Derived.Shelf.SlSortCmp.SiftDown1
import Derived.Shelf.SlSortCmp.HeapSort1
import Derived.Shelf.SlSortCmp.Insertion1
import Derived.Shelf.SlSortCmp.Median1
import Derived.Shelf.SlSortCmp.Pivot1
import Derived.Shelf.SlSortCmp.ReverseRange1
import Derived.Shelf.SlSortCmp.PartialInsertion1
import Derived.Shelf.SlSortCmp.PartitionEqual1
import Derived.Shelf.SlSortCmp.Partition1
import Derived.Shelf.SlSortCmp.Pdq1
import Derived.Shelf.SlSortCmp.Whole1
import Derived.Test.YtbadfphdniliaaaGreatDoorProg
import Derived.Test.YtbadfphdniliaaaGreatDoorDiscountMeansM1
import Derived.Test.YtbadfphdniliaaaGreatDoorRows
import Derived.Shelf.SlLaysF
import Derived.Test.YtbadfphdniliaaaGreatDoorCards
import Derived.Test.YtbadfphdniliaaaGreatDoorTie
import Derived.Test.YtbadfphdniliaaaGreatDoorDiscountMeansM2
section
namespace Go.Proofs
open Go.Shelf
def Tryz.lays160_ren : Go.Shelf.Ren := ⟨fun | 160 => 45 | 232 => 57 | 231 => 56 | 227 => 58 | 234 => 60 | 233 => 59 | 236 => 62 | 235 => 61 | 228 => 70 | 271 => 73 | 151 => 72 | 197 => 71 | 120 => 92 | 152 => 91 | 260 => 90 | 137 => 105 | 119 => 106 | 224 => 95 | 225 => 94 | 217 => 93 | 266 => 107 | n => n, fun | 9 => 9 | 4 => 4 | 3 => 3 | 5 => 5 | 117 => 80 | 116 => 79 | 0 => 0 | 124 => 83 | 21 => 21 | 105 => 91 | 46 => 88 | 119 => 119 | 139 => 122 | 138 => 121 | n => n, fun | 3 => 2 | 4 => 3 | n => n⟩
theorem Tryz.lays160 : Go.Proofs.Lays.n160 Tryz.prog Tryz.lays160_ren := {
 mixed := by kernel_rfl
 f119 := Tryz.func106.trans (congrArg some (by kernel_rfl))
 f120 := Tryz.func92.trans (congrArg some (by kernel_rfl))
 f137 := Tryz.func105.trans (congrArg some (by kernel_rfl))
 f151 := Tryz.func72.trans (congrArg some (by kernel_rfl))
 f152 := Tryz.func91.trans (congrArg some (by kernel_rfl))
 f160 := Tryz.func45.trans (congrArg some (by kernel_rfl))
 f197 := Tryz.func71.trans (congrArg some (by kernel_rfl))
 f217 := Tryz.func93.trans (congrArg some (by kernel_rfl))
 f224 := Tryz.func95.trans (congrArg some (by kernel_rfl))
 f225 := Tryz.func94.trans (congrArg some (by kernel_rfl))
 f227 := Tryz.func58.trans (congrArg some (by kernel_rfl))
 f228 := Tryz.func70.trans (congrArg some (by kernel_rfl))
 f231 := Tryz.func56.trans (congrArg some (by kernel_rfl))
 f232 := Tryz.func57.trans (congrArg some (by kernel_rfl))
 f233 := Tryz.func59.trans (congrArg some (by kernel_rfl))
 f234 := Tryz.func60.trans (congrArg some (by kernel_rfl))
 f235 := Tryz.func61.trans (congrArg some (by kernel_rfl))
 f236 := Tryz.func62.trans (congrArg some (by kernel_rfl))
 f260 := Tryz.func90.trans (congrArg some (by kernel_rfl))
 f266 := Tryz.func107.trans (congrArg some (by kernel_rfl))
 f271 := Tryz.func73.trans (congrArg some (by kernel_rfl))
 t0 := Tryz.underlying0
 a0 := Tryz.isAgg0
 z0 := Tryz.sizeOf0
 v0 := Tryz.zeroValue0
 t3 := Tryz.underlying3
 a3 := Tryz.isAgg3
 z3 := Tryz.sizeOf3
 v3 := Tryz.zeroValue3
 t4 := Tryz.underlying4
 a4 := Tryz.isAgg4
 z4 := Tryz.sizeOf4
 v4 := Tryz.zeroValue4
 t5 := Tryz.underlying5
 a5 := Tryz.isAgg5
 z5 := Tryz.sizeOf5
 v5 := Tryz.zeroValue5
 t9 := Tryz.underlying9
 a9 := Tryz.isAgg9
 z9 := Tryz.sizeOf9
 v9 := Tryz.zeroValue9
 t21 := Tryz.underlying21
 a21 := Tryz.isAgg21
 z21 := Tryz.sizeOf21
 v21 := Tryz.zeroValue21
 t46 := Tryz.underlying88
 a46 := Tryz.isAgg88
 z46 := Tryz.sizeOf88
 v46 := Tryz.zeroValue88
 t105 := Tryz.underlying91
 a105 := Tryz.isAgg91
 z105 := Tryz.sizeOf91
 v105 := Tryz.zeroValue91
 t116 := Tryz.underlying79
 a116 := Tryz.isAgg79
 z116 := Tryz.sizeOf79
 t117 := Tryz.underlying80
 a117 := Tryz.isAgg80
 z117 := Tryz.sizeOf80
 v117 := Tryz.zeroValue80
 t119 := Tryz.underlying119
 a119 := Tryz.isAgg119
 z119 := Tryz.sizeOf119
 t124 := Tryz.underlying83
 a124 := Tryz.isAgg83
 z124 := Tryz.sizeOf83
 v124 := Tryz.zeroValue83
 t138 := Tryz.underlying121
 a138 := Tryz.isAgg121
 z138 := Tryz.sizeOf121
 v138 := Tryz.zeroValue121
 t139 := Tryz.underlying122
 a139 := Tryz.isAgg122
 z139 := Tryz.sizeOf122
 v139 := Tryz.zeroValue122
 g3 := by kernel_rfl
 g4 := by kernel_rfl }
open Go.RowKit in
theorem Tryz.strings_Trim_one (s : ByteArray) (c : UInt8) (hc : c.toNat < 128) (w : World) (hs : s.size ≤ 9223372036854775807) :
 Calls Tryz.prog 45 #[.string s, .string ⟨#[c]⟩] w fun e w' => e = .returned (.string ⟨(Lib.trimB s.data.toList c).toArray⟩) ∧ (w' = w ∨ w' = w.drew) := Any.strings_Trim_one Tryz.lays160 s c hc w hs
def Tryz.lays125_ren : Go.Shelf.Ren := ⟨fun | 125 => 66 | 128 => 85 | 129 => 86 | n => n, fun | 46 => 88 | 3 => 3 | 51 => 105 | 53 => 55 | 4 => 4 | 5 => 5 | 9 => 9 | n => n, fun | n => n⟩
theorem Tryz.lays125 : Go.Proofs.Lays.n125 Tryz.prog Tryz.lays125_ren := {
 mixed := by kernel_rfl
 f125 := Tryz.func66.trans (congrArg some (by kernel_rfl))
 f128 := Tryz.func85.trans (congrArg some (by kernel_rfl))
 f129 := Tryz.func86.trans (congrArg some (by kernel_rfl))
 t3 := Tryz.underlying3
 a3 := Tryz.isAgg3
 z3 := Tryz.sizeOf3
 v3 := Tryz.zeroValue3
 t4 := Tryz.underlying4
 a4 := Tryz.isAgg4
 z4 := Tryz.sizeOf4
 v4 := Tryz.zeroValue4
 t5 := Tryz.underlying5
 a5 := Tryz.isAgg5
 z5 := Tryz.sizeOf5
 v5 := Tryz.zeroValue5
 t9 := Tryz.underlying9
 a9 := Tryz.isAgg9
 z9 := Tryz.sizeOf9
 v9 := Tryz.zeroValue9
 t46 := Tryz.underlying88
 a46 := Tryz.isAgg88
 z46 := Tryz.sizeOf88
 v46 := Tryz.zeroValue88
 t51 := Tryz.underlying105
 a51 := Tryz.isAgg105
 z51 := Tryz.sizeOf105
 v51 := Tryz.zeroValue105
 t53 := Tryz.underlying55
 a53 := Tryz.isAgg55
 z53 := Tryz.sizeOf55
 v53 := Tryz.zeroValue55 }
theorem Tryz.bits_Len (x : Int) (w : World) (h0 : 0 ≤ x) (h1 : x ≤ 18446744073709551615) :
 Calls Tryz.prog 66 #[.int .u64 x] w fun e w' => e = .returned (.int .i64 (Lib.bitLen x.toNat)) ∧ w' = w := Any.bits_Len Tryz.lays125 x w h0 h1
def Tryz.lays144_ren : Go.Shelf.Ren := ⟨fun | 144 => 46 | 143 => 63 | 219 => 74 | 217 => 93 | 225 => 94 | 224 => 95 | 267 => 96 | 266 => 107 | 314 => 108 | n => n, fun | 9 => 9 | 4 => 4 | 3 => 3 | 5 => 5 | 46 => 88 | 146 => 124 | 51 => 105 | n => n, fun | 1 => 1 | n => n⟩
theorem Tryz.lays144 : Go.Proofs.Lays.n144 Tryz.prog Tryz.lays144_ren := {
 mixed := by kernel_rfl
 f143 := Tryz.func63.trans (congrArg some (by kernel_rfl))
 f144 := Tryz.func46.trans (congrArg some (by kernel_rfl))
 f217 := Tryz.func93.trans (congrArg some (by kernel_rfl))
 f219 := Tryz.func74.trans (congrArg some (by kernel_rfl))
 f224 := Tryz.func95.trans (congrArg some (by kernel_rfl))
 f225 := Tryz.func94.trans (congrArg some (by kernel_rfl))
 f266 := Tryz.func107.trans (congrArg some (by kernel_rfl))
 f267 := Tryz.func96.trans (congrArg some (by kernel_rfl))
 f314 := Tryz.func108.trans (congrArg some (by kernel_rfl))
 t3 := Tryz.underlying3
 a3 := Tryz.isAgg3
 z3 := Tryz.sizeOf3
 v3 := Tryz.zeroValue3
 t4 := Tryz.underlying4
 a4 := Tryz.isAgg4
 z4 := Tryz.sizeOf4
 v4 := Tryz.zeroValue4
 t5 := Tryz.underlying5
 a5 := Tryz.isAgg5
 z5 := Tryz.sizeOf5
 v5 := Tryz.zeroValue5
 t9 := Tryz.underlying9
 a9 := Tryz.isAgg9
 z9 := Tryz.sizeOf9
 v9 := Tryz.zeroValue9
 t46 := Tryz.underlying88
 a46 := Tryz.isAgg88
 z46 := Tryz.sizeOf88
 v46 := Tryz.zeroValue88
 t51 := Tryz.underlying105
 a51 := Tryz.isAgg105
 z51 := Tryz.sizeOf105
 v51 := Tryz.zeroValue105
 t146 := Tryz.underlying124
 a146 := Tryz.isAgg124
 z146 := Tryz.sizeOf124
 v146 := Tryz.zeroValue124
 g1 := by kernel_rfl }
open Go.RowKit Go.Lib in
theorem Tryz.strings_Contains (s sub : ByteArray) (m : Int) (w : World) (hs : s.size < 4294967281) (hm : w.cell? ⟨1, 0, none⟩ = some (.int .i64 m)) :
 Calls Tryz.prog 46 #[.string s, .string sub] w fun e w' => e = .returned (.bool (Lib.contains s.data.toList sub.data.toList)) ∧ w' = w := Any.strings_Contains Tryz.lays144 s sub m w hs hm
def Tryz.laysM144_ren : Go.Shelf.Ren := ⟨fun | 144 => 46 | 143 => 63 | 219 => 74 | 217 => 93 | 225 => 94 | 224 => 95 | 267 => 96 | 266 => 107 | 314 => 108 | n => n, fun | 9 => 9 | 4 => 4 | 3 => 3 | 5 => 5 | 46 => 88 | 146 => 124 | 51 => 105 | n => n, fun | 1 => 1 | n => n⟩
theorem Tryz.laysM144 : Go.Proofs.LaysM.n144 Tryz.prog Tryz.laysM144_ren := {
 mixed := by kernel_rfl
 f143 := Tryz.func63.trans (congrArg some (by kernel_rfl))
 f144 := Tryz.func46.trans (congrArg some (by kernel_rfl))
 f217 := Tryz.func93.trans (congrArg some (by kernel_rfl))
 f219 := Tryz.func74.trans (congrArg some (by kernel_rfl))
 f224 := Tryz.func95.trans (congrArg some (by kernel_rfl))
 f225 := Tryz.func94.trans (congrArg some (by kernel_rfl))
 f266 := Tryz.func107.trans (congrArg some (by kernel_rfl))
 f267 := Tryz.func96.trans (congrArg some (by kernel_rfl))
 f314 := Tryz.func108.trans (congrArg some (by kernel_rfl))
 t3 := Tryz.underlying3
 a3 := Tryz.isAgg3
 z3 := Tryz.sizeOf3
 v3 := Tryz.zeroValue3
 t4 := Tryz.underlying4
 a4 := Tryz.isAgg4
 z4 := Tryz.sizeOf4
 v4 := Tryz.zeroValue4
 t5 := Tryz.underlying5
 a5 := Tryz.isAgg5
 z5 := Tryz.sizeOf5
 v5 := Tryz.zeroValue5
 t9 := Tryz.underlying9
 a9 := Tryz.isAgg9
 z9 := Tryz.sizeOf9
 v9 := Tryz.zeroValue9
 t46 := Tryz.underlying88
 a46 := Tryz.isAgg88
 z46 := Tryz.sizeOf88
 v46 := Tryz.zeroValue88
 t51 := Tryz.underlying105
 a51 := Tryz.isAgg105
 z51 := Tryz.sizeOf105
 v51 := Tryz.zeroValue105
 t146 := Tryz.underlying124
 a146 := Tryz.isAgg124
 z146 := Tryz.sizeOf124
 v146 := Tryz.zeroValue124
 g1 := by kernel_rfl
 i3 := by kernel_rfl
 i4 := by kernel_rfl
 i5 := by kernel_rfl
 i9 := by kernel_rfl
 i46 := by kernel_rfl
 i51 := by kernel_rfl
 i146 := by kernel_rfl
 m1 := by kernel_rfl
 s1_3 := fun w h => Go.Proofs.cell_of_shapedOpen_int (zero := #[.int .i64 0]) (t := 3) h (of_decide_eq_true (by kernel_rfl)) (by kernel_rfl) rfl (by kernel_rfl) (by kernel_rfl) Tryz.underlying3 }
def Tryz.laysSlF20_f75_ren : Go.Shelf.Ren := ⟨fun | 20 => 75 | n => n, fun | 24 => 3 | 22 => 43 | 3 => 3 | 25 => 68 | 4 => 4 | 0 => 0 | n => n, fun | n => n⟩
theorem Tryz.laysSlF20_f75 : Go.Proofs.SlLaysF.n20 Tryz.prog Tryz.laysSlF20_f75_ren := {
 mixed := by kernel_rfl
 f20 := ⟨Tryz.f75.name, by decide, Tryz.func75.trans (congrArg some (by kernel_rfl))⟩
 t0 := Tryz.underlying0
 a0 := Tryz.isAgg0
 z0 := Tryz.sizeOf0
 v0 := Tryz.zeroValue0
 t3 := Tryz.underlying3
 a3 := Tryz.isAgg3
 z3 := Tryz.sizeOf3
 v3 := Tryz.zeroValue3
 t4 := Tryz.underlying4
 a4 := Tryz.isAgg4
 z4 := Tryz.sizeOf4
 v4 := Tryz.zeroValue4
 t22 := Tryz.underlying43
 a22 := Tryz.isAgg43
 z22 := Tryz.sizeOf43
 v22 := Tryz.zeroValue43
 a24 := Tryz.isAgg3
 z24 := Tryz.sizeOf3
 t25 := Tryz.underlying68
 a25 := Tryz.isAgg68
 z25 := Tryz.sizeOf68
 v25 := Tryz.zeroValue68 }
open Go.RowKit Go.Lib Go.Sort in
theorem Tryz.insertionSortCmpFunc_s_f75 {α : Type} [Inhabited α] (enc : α → Value) (cf : α → α → Int) (g : Nat) (cb : Array Value) (blk off cap a b : Nat) (d0 d : Array α) (w0 w : World) (eg : ∀ args w, (callFunc g args).run Tryz.prog w = .ok (.enter g args) w) (hcmp : CmpLays1 Tryz.prog g cb enc cf blk off d0.size w0) (R : Row1 enc w0 blk off d0) (hs : d0.size = d.size) (S : SW enc w0 blk off d w) (hab : a ≤ b) (hb : b ≤ d.size) (hsz : d.size < 4611686018427387904) :
 Calls Tryz.prog 75 #[.slice (some ⟨blk, off, none⟩) d.size cap, .int .i64 a, .int .i64 b, .func (.func g) #[] cb] w fun e w' => e = .returned (.tuple #[]) ∧ SW enc w0 blk off (Sort.insertionSort (ltOf cf) d a b) w' := Any.insertionSortCmpFunc_s Tryz.laysSlF20_f75 enc cf g cb blk off cap a b d0 d w0 w eg hcmp R hs S hab hb hsz
def Tryz.laysSlF6_f50_ren : Go.Shelf.Ren := ⟨fun | 6 => 50 | 15 => 66 | 14 => 65 | 28 => 85 | 29 => 86 | 20 => 77 | 21 => 78 | 22 => 79 | 23 => 80 | 24 => 81 | 25 => 82 | 26 => 83 | 27 => 84 | 46 => 98 | 47 => 99 | 48 => 100 | 49 => 101 | 50 => 102 | 57 => 110 | n => n, fun | 22 => 37 | 24 => 22 | 25 => 44 | 3 => 3 | 39 => 88 | 0 => 0 | 53 => 105 | 55 => 55 | 4 => 4 | 46 => 98 | 45 => 97 | 50 => 102 | 5 => 5 | 9 => 9 | 66 => 113 | 70 => 117 | 76 => 126 | 77 => 127 | n => n, fun | n => n⟩
theorem Tryz.laysSlF6_f50 : Go.Proofs.SlLaysF.n6 Tryz.prog Tryz.laysSlF6_f50_ren := {
 mixed := by kernel_rfl
 f6 := ⟨Tryz.f50.name, by decide, Tryz.func50.trans (congrArg some (by kernel_rfl))⟩
 f14 := ⟨Tryz.f65.name, by decide, Tryz.func65.trans (congrArg some (by kernel_rfl))⟩
 f15 := Tryz.func66.trans (congrArg some (by kernel_rfl))
 f20 := ⟨Tryz.f77.name, by decide, Tryz.func77.trans (congrArg some (by kernel_rfl))⟩
 f21 := ⟨Tryz.f78.name, by decide, Tryz.func78.trans (congrArg some (by kernel_rfl))⟩
 f22 := ⟨Tryz.f79.name, by decide, Tryz.func79.trans (congrArg some (by kernel_rfl))⟩
 f23 := ⟨Tryz.f80.name, by decide, Tryz.func80.trans (congrArg some (by kernel_rfl))⟩
 f24 := ⟨Tryz.f81.name, by decide, Tryz.func81.trans (congrArg some (by kernel_rfl))⟩
 f25 := ⟨Tryz.f82.name, by decide, Tryz.func82.trans (congrArg some (by kernel_rfl))⟩
 f26 := ⟨Tryz.f83.name, by decide, Tryz.func83.trans (congrArg some (by kernel_rfl))⟩
 f27 := ⟨Tryz.f84.name, by decide, Tryz.func84.trans (congrArg some (by kernel_rfl))⟩
 f28 := Tryz.func85.trans (congrArg some (by kernel_rfl))
 f29 := Tryz.func86.trans (congrArg some (by kernel_rfl))
 f46 := ⟨Tryz.f98.name, by decide, Tryz.func98.trans (congrArg some (by kernel_rfl))⟩
 f47 := Tryz.func99.trans (congrArg some (by kernel_rfl))
 f48 := Tryz.func100.trans (congrArg some (by kernel_rfl))
 f49 := ⟨Tryz.f101.name, by decide, Tryz.func101.trans (congrArg some (by kernel_rfl))⟩
 f50 := ⟨Tryz.f102.name, by decide, Tryz.func102.trans (congrArg some (by kernel_rfl))⟩
 f57 := ⟨Tryz.f110.name, by decide, Tryz.func110.trans (congrArg some (by kernel_rfl))⟩
 t0 := Tryz.underlying0
 a0 := Tryz.isAgg0
 z0 := Tryz.sizeOf0
 v0 := Tryz.zeroValue0
 t3 := Tryz.underlying3
 a3 := Tryz.isAgg3
 z3 := Tryz.sizeOf3
 v3 := Tryz.zeroValue3
 t4 := Tryz.underlying4
 a4 := Tryz.isAgg4
 z4 := Tryz.sizeOf4
 v4 := Tryz.zeroValue4
 t5 := Tryz.underlying5
 a5 := Tryz.isAgg5
 z5 := Tryz.sizeOf5
 v5 := Tryz.zeroValue5
 t9 := Tryz.underlying9
 a9 := Tryz.isAgg9
 z9 := Tryz.sizeOf9
 v9 := Tryz.zeroValue9
 t22 := Tryz.underlying37
 a22 := Tryz.isAgg37
 z22 := Tryz.sizeOf37
 v22 := Tryz.zeroValue37
 a24 := Tryz.isAgg22
 z24 := Tryz.sizeOf22
 t25 := Tryz.underlying44
 a25 := Tryz.isAgg44
 z25 := Tryz.sizeOf44
 v25 := Tryz.zeroValue44
 t39 := Tryz.underlying88
 a39 := Tryz.isAgg88
 z39 := Tryz.sizeOf88
 v39 := Tryz.zeroValue88
 t45 := Tryz.underlying97
 a45 := Tryz.isAgg97
 z45 := Tryz.sizeOf97
 v45 := Tryz.zeroValue97
 t46 := Tryz.underlying98
 a46 := Tryz.isAgg98
 z46 := Tryz.sizeOf98
 v46 := Tryz.zeroValue98
 t50 := Tryz.underlying102
 a50 := Tryz.isAgg102
 z50 := Tryz.sizeOf102
 v50 := Tryz.zeroValue102
 t53 := Tryz.underlying105
 a53 := Tryz.isAgg105
 z53 := Tryz.sizeOf105
 v53 := Tryz.zeroValue105
 t55 := Tryz.underlying55
 a55 := Tryz.isAgg55
 z55 := Tryz.sizeOf55
 v55 := Tryz.zeroValue55
 t66 := Tryz.underlying113
 a66 := Tryz.isAgg113
 z66 := Tryz.sizeOf113
 v66 := Tryz.zeroValue113
 t70 := Tryz.underlying117
 a70 := Tryz.isAgg117
 z70 := Tryz.sizeOf117
 v70 := Tryz.zeroValue117
 t76 := Tryz.underlying126
 a76 := Tryz.isAgg126
 z76 := Tryz.sizeOf126
 v76 := Tryz.zeroValue126
 t77 := Tryz.underlying127
 a77 := Tryz.isAgg127
 z77 := Tryz.sizeOf127
 v77 := Tryz.zeroValue127 }
open Go.RowKit Go.Lib Go.Sort in
theorem Tryz.slices_SortFunc {α : Type} [Inhabited α] (enc : α → Value) (h1 : OneCell enc) (cf : α → α → Int) (hO : SWO (ltOf cf)) (g : Nat) (cb : Array Value) (blk off cap : Nat) (d : Array α) (w : World) (eg : ∀ args w, (callFunc g args).run Tryz.prog w = .ok (.enter g args) w) (hcmp : CmpLays1 Tryz.prog g cb enc cf blk off d.size w) (hH : Holds enc w blk off d) (hblk : blk < w.heap.size) (hsz : d.size < 4611686018427387904) :
 Calls Tryz.prog 50 #[.slice (some ⟨blk, off, none⟩) d.size cap, .func (.func g) #[] cb] w fun e w' =>
  e = .returned (.tuple #[]) ∧ ∃ d' n os, PermIn 0 d.size d d' ∧ SortedIn (ltOf cf) 0 d.size d' ∧ w' = sortWorld enc w blk off n d' os := Any.slices_SortFunc Tryz.laysSlF6_f50 enc h1 cf hO g cb blk off cap d w eg hcmp hH hblk hsz
end Go.Proofs
end
section
namespace Go.Proofs.YtbadfphdniliaaaGreatDoor
open Go.Pn Go.RowKit _root_.Go.Proofs.Tryz
theorem ext30 : ∀ args w, (callFunc 30 args).run Tryz.prog w = ((bitsOf args).run Tryz.prog w).andThen fun v w' => .ok (.value v) w' := fun args w => run_callFunc_extern func30 (by kernel_rfl) (by kernel_rfl) (by kernel_rfl) (by kernel_rfl) args w
theorem ext28 : ∀ args w, (callFunc 28 args).run Tryz.prog w = ((fromBits args).run Tryz.prog w).andThen fun v w' => .ok (.value v) w' := fun args w => run_callFunc_extern func28 (by kernel_rfl) (by kernel_rfl) (by kernel_rfl) (by kernel_rfl) args w
theorem key_spec (x : BitVec 64) (w : World) :
 Ret Tryz.prog 38 #[fl (x)] w (fun v w' => v = .int .u64 ((Fl.key x).toNat : Int) ∧ w' = w) := by
 refine enT [fl (x)] 13 func38 rfl rfl (C.sr fun K1 => O.asg (K1 (C.sr fun K2 => O.mv (O.ext ext30 (args1 rfl) (run_bitsOf _) (O.asg (K2 (C.sq fun K3 => C.sr fun K4 => O.mv (O.andU (m := 64) (b := 9223372036854775808#64) rfl rfl rfl rfl (O.neqU (m := 64) (b := 0#64) rfl rfl (K4 (C.condD rfl (fun c8 => ?_) (fun c8 => ?_))))))))))))
 ·
  refine C.sr fun K5 => O.mv (O.notU rfl rfl rfl (O.asg (K5 (C.ret (Outs.one rfl rfl ?_)))))
  first
  | (rw [← Fl.key_hi c8]; exact ⟨rfl, rfl⟩)
  | (rw [← Fl.key_lo c8]; exact ⟨rfl, rfl⟩)
 refine C.skip (K3 (C.sr fun K6 => O.mv (O.orU (m := 64) (b := 9223372036854775808#64) rfl rfl rfl rfl (O.asg (K6 (C.ret (Outs.one rfl rfl ?_)))))))
 first
 | (rw [← Fl.key_hi c8]; exact ⟨rfl, rfl⟩)
 | (rw [← Fl.key_lo c8]; exact ⟨rfl, rfl⟩)
theorem isNaN_spec (x : BitVec 64) (w : World) :
 Ret Tryz.prog 51 #[.int .u64 ((x).toNat : Int)] w (fun v w' => v = .bool false ∧ w' = w) := by
 refine enT [.int .u64 ((x).toNat : Int)] 6 func51 rfl rfl (C.sr fun K1 => O.asg (K1 (C.sr fun K2 => O.mv (O.mv (O.neqU (m := 64) rfl rfl (O.cast (v' := .bool false) (congrArg Value.bool (by exact decide_eq_false (fun h => h rfl))) (O.asg (K2 (C.ret (Outs.one rfl rfl ?_))))))))))
 exact ⟨rfl, rfl⟩
theorem ucmp_spec (a b : BitVec 64) (w : World) :
 Ret Tryz.prog 37 #[.int .u64 ((a).toNat : Int), .int .u64 ((b).toNat : Int)] w (fun v w' => v = .int .i64 (Fl.ucmp a b) ∧ w' = w) := by
 refine enT [.int .u64 ((a).toNat : Int), .int .u64 ((b).toNat : Int)] 20 func37 rfl rfl (C.sr fun K1 => O.asg (K1 (C.sr fun K2 => O.mv (O.call call51 (args1 rfl) (isNaN_spec _ _) ?_))))
 rintro v_8 w1 ⟨rfl, hw_⟩
 replace hw_ := hw_.symm
 subst hw_
 refine O.asg (K2 (C.sr fun K3 => O.mv (O.call call51 (args1 rfl) (isNaN_spec _ _) ?_)))
 rintro v_10 w1 ⟨rfl, hw_⟩
 replace hw_ := hw_.symm
 subst hw_
 refine O.asg (K3 (C.sq fun K4 => C.sr fun K5 => O.mv (K5 (C.condF rfl (C.skip (K4 (C.sq fun K6 => C.sr fun K7 => O.mv (K7 (C.condF rfl (C.skip (K6 (C.sq fun K8 => C.sr fun K9 => O.mv (O.mv (O.lssU (m := 64) rfl rfl (K9 (C.condD rfl (fun c16 => ?_) (fun c16 => ?_)))))))))))))))))
 ·
  refine C.sr fun K10 => O.asg (K10 (C.ret (Outs.one rfl rfl ?_)))
  unfold Fl.ucmp
  first
  | (rw [if_pos c16]; exact ⟨rfl, rfl⟩)
  | (rw [if_neg c16, if_pos c19]; exact ⟨rfl, rfl⟩)
  | (rw [if_neg c16, if_neg c19]; exact ⟨rfl, rfl⟩)
 refine C.skip (K8 (C.sq fun K11 => C.sr fun K12 => O.mv (O.mv (O.gtrU (m := 64) rfl rfl (K12 (C.condD rfl (fun c19 => ?_) (fun c19 => ?_)))))))
 ·
  refine C.sr fun K13 => O.asg (K13 (C.ret (Outs.one rfl rfl ?_)))
  unfold Fl.ucmp
  first
  | (rw [if_pos c16]; exact ⟨rfl, rfl⟩)
  | (rw [if_neg c16, if_pos c19]; exact ⟨rfl, rfl⟩)
  | (rw [if_neg c16, if_neg c19]; exact ⟨rfl, rfl⟩)
 refine C.skip (K11 (C.sr fun K14 => O.asg (K14 (C.ret (Outs.one rfl rfl ?_)))))
 unfold Fl.ucmp
 first
 | (rw [if_pos c16]; exact ⟨rfl, rfl⟩)
 | (rw [if_neg c16, if_pos c19]; exact ⟨rfl, rfl⟩)
 | (rw [if_neg c16, if_neg c19]; exact ⟨rfl, rfl⟩)
theorem cmp_spec (a b : BitVec 64) (w : World) :
 Ret Tryz.prog 23 #[fl (a), fl (b)] w (fun v w' => v = .int .i64 (Fl.cmp a b) ∧ w' = w) := by
 refine enT [fl (a), fl (b)] 10 func23 rfl rfl (C.sr fun K1 => O.asg (K1 (C.sr fun K2 => O.mv (O.call call38 (args1 rfl) (key_spec _ _) ?_))))
 rintro v_6 w1 ⟨rfl, hw_⟩
 replace hw_ := hw_.symm
 subst hw_
 refine O.mv (O.call call38 (args1 rfl) (key_spec _ _) ?_)
 rintro v_8 w1 ⟨rfl, hw_⟩
 replace hw_ := hw_.symm
 subst hw_
 refine O.call call37 (args2 rfl rfl) (ucmp_spec _ _ _) ?_
 rintro v_9 w1 ⟨rfl, hw_⟩
 replace hw_ := hw_.symm
 subst hw_
 refine O.asg (K2 (C.ret (Outs.one rfl rfl ?_)))
 exact ⟨rfl, rfl⟩
end Go.Proofs.YtbadfphdniliaaaGreatDoor
end
section
namespace Go.Proofs.YtbadfphdniliaaaGreatDoor
open Go.Pn Go.RowKit _root_.Go.Proofs.Tryz
theorem inf22 : ∃ ie, Tryz.prog.info? 22 = some ie ∧ ie.size = 1 ∧ ie.bytes = 8 ∧ ie.zero = some (.float .f64 0) := by
 have h : (Tryz.prog.info? 22).isSome = true := by kernel_rfl
 exact ⟨(Tryz.prog.info? 22).get h, (Option.some_get h).symm, by kernel_rfl, by kernel_rfl, by kernel_rfl⟩
theorem canon_spec (x : BitVec 64) (w : World) :
 Ret Tryz.prog 35 #[fl (x)] w (fun v w' => v = fl (Fl.canon x) ∧ w' = w) := by
 refine enT [fl (x)] 12 func35 rfl rfl (C.sr fun K1 => O.asg (K1 (C.sq fun K2 => C.bl fun K3 => C.sr fun K4 => O.mv (O.mv (O.neqF rfl rfl (O.asg (K4 (C.condD rfl (fun c3 => ?_) (fun c3 => ?_)))))))))
 ·
  refine C.sr fun K5 => O.ext ext28 (args1 rfl) (run_fromBits (9221120237041090560#64)) (O.asg (K5 (C.ret (Outs.one rfl rfl ?_))))
  first
  | (rw [Fl.canon_nan c3]; exact ⟨rfl, rfl⟩)
  | (rw [Fl.canon_zero c3 c8]; exact ⟨rfl, rfl⟩)
  | (rw [Fl.canon_else c3 c8]; exact ⟨rfl, rfl⟩)
 refine C.sr fun K6 => O.mv (O.eqlF (b := 0#64) rfl rfl (O.asg (K6 (C.condD rfl (fun c8 => ?_) (fun c8 => ?_)))))
 ·
  refine C.sr fun K7 => O.asg (K7 (C.ret (Outs.one rfl rfl ?_)))
  first
  | (rw [Fl.canon_nan c3]; exact ⟨rfl, rfl⟩)
  | (rw [Fl.canon_zero c3 c8]; exact ⟨rfl, rfl⟩)
  | (rw [Fl.canon_else c3 c8]; exact ⟨rfl, rfl⟩)
 refine C.skip (K3 (K2 (C.sr fun K8 => O.mv (O.asg (K8 (C.ret (Outs.one rfl rfl ?_)))))))
 first
 | (rw [Fl.canon_nan c3]; exact ⟨rfl, rfl⟩)
 | (rw [Fl.canon_zero c3 c8]; exact ⟨rfl, rfl⟩)
 | (rw [Fl.canon_else c3 c8]; exact ⟨rfl, rfl⟩)
end Go.Proofs.YtbadfphdniliaaaGreatDoor
end
section
namespace Go.Proofs.YtbadfphdniliaaaGreatDoor
open Go.Pn Go.RowKit Go.Proofs _root_.Go.Proofs.Tryz
attribute [local irreducible] O C D
structure Mx (w : World) : Prop where
 h : ∃ m : Int, CellIs w 1 (.int .i64 m)
theorem Mx.keep {w w' : World} (h : Mx w) (e : Le w w') : Mx w' := by obtain ⟨m, hm⟩ := h.h; exact ⟨m, hm.keep e⟩
theorem trim_spec (l : List UInt8) (w : World) (hl : l.length ≤ 281474976710656) : Ret Tryz.prog 45 #[str l, str [32]] w (fun v w' => v = str (Lib.trimB l 32) ∧ Le w w') := by
 refine Ret.of (Tryz.strings_Trim_one ⟨l.toArray⟩ 32 (by decide) w (by simp [ByteArray.size]; omega)) ?_
 rintro e w' ⟨rfl, rfl | rfl⟩
 ·exact ⟨_, rfl, rfl, Le.refl _⟩
 ·exact ⟨_, rfl, rfl, Le.drew w⟩
theorem has2_spec (l : List UInt8) (w : World) (hl : l.length ≤ 10000000) (mx : Mx w) : Ret Tryz.prog 46 #[str l, str [32, 32]] w (fun v w' => v = .bool (Lib.contains l [32, 32]) ∧ Le w w') := by
 obtain ⟨m, hm⟩ := mx.h
 refine Ret.of (Tryz.strings_Contains ⟨l.toArray⟩ ⟨[32, 32].toArray⟩ m w (by simp [ByteArray.size]; omega) hm) ?_
 rintro e w' ⟨rfl, rfl⟩
 exact ⟨_, rfl, rfl, Le.refl _⟩
theorem ext67 : ∀ args w, (callFunc 67 args).run Tryz.prog w = ((floorX args).run Tryz.prog w).andThen fun v w' => .ok (.value v) w' := fun args w => run_callFunc_extern func67 (by kernel_rfl) (by kernel_rfl) (by kernel_rfl) (by kernel_rfl) args w
theorem okName_spec (s : List UInt8) (w : World) (hl : s.length ≤ maxLen) (mx : Mx w) :
 Ret Tryz.prog 31 #[str (s)] w (fun v w' => v = .bool (Cn.okName s) ∧ Le w w') := by
 have hl2 := hl
 unfold maxLen at hl2
 refine enT [str (s)] 38 func31 rfl rfl (C.sr fun K1 => O.asg (K1 (C.sq fun K2 => C.sr fun K3 => O.mv (O.strB underlying9 underlying69 underlying5 rfl (by unfold maxLen; omega) (fun b6 cap6 w1 hb6 hc6 h6 hs6 e1 => ?_)))))
 have z1 := e1.size
 refine O.len underlying69 rfl hs6 (O.mv (K3 (C.bl fun K4 => C.loop0 (σ := Nat) (fun f0 w0 k f w => f 8 = .int .i64 (k) ∧ f 0 = f0 0 ∧ f 6 = f0 6 ∧ f 7 = f0 7 ∧ Le w0 w ∧ k ≤ s.length ∧ ∀ i, ∀ h : i < s.length, i < k → Cn.okC s[i] = true) (fun k => s.length - k) 0 ?_ ?_)))
 ·
  refine ⟨rfl, rfl, rfl, rfl, Le.refl _, ?_⟩
  exact ⟨Nat.zero_le _, fun i h k => absurd k (Nat.not_lt_zero _)⟩
 rintro k f_1 w2 ⟨s8_1, s0_1, s6_1, s7_1, e_1, ⟨hk, hI⟩⟩
 have z_1 := e_1.size
 refine C.sr fun K5 => O.lssI s8_1 s7_1 (K5 (C.sq fun K6 => C.condD rfl (fun c9 => ?_) (fun c9 => ?_)))
 ·
  have hk2 : k < s.length := by omega
  refine C.skip (K6 (C.sq fun K7 => C.bl fun K8 => C.sr fun K9 => O.idx underlying69 sizeOf5 rfl s6_1 (hs6.keep e_1) s8_1 (by omega) (fun a10 h10 => O.loadB isAgg5 rfl h10 (O.asg (K9 (C.sr fun K10 => O.mv (O.lssU (m := 8) (b := 32#8) rfl rfl (O.mv (O.splitD (x := .tmp 14) rfl (fun c14 => ?_) (fun c14 => ?_))))))))))
  ·
   simp only [Int.toNat_natCast] at c14
   refine O.no rfl (noB (isT rfl c14) rfl) (O.no rfl (noB (isT rfl c14) rfl) (O.pickT (isT rfl c14) (K10 (C.condT rfl (C.sr fun K11 => O.asg (K11 (C.ret (Outs.one rfl rfl ?_))))))))
   first
   | exact ⟨congrArg Value.bool (Cn.okName_all hk2 (Cn.okC_lo c14)).symm, (Ext.trans e1 e_1)⟩
   | exact ⟨congrArg Value.bool (Cn.okName_all hk2 (Cn.okC_hi c17)).symm, (Ext.trans e1 e_1)⟩
   | (refine ⟨congrArg Value.bool ?_, (Ext.trans e1 e_1)⟩
      unfold Cn.okName
      rw [hall]
      first
      | (rw [decide_eq_false (p := 1 ≤ s.length ∧ s.length ≤ 64) (by omega)]; rfl)
      | (rw [decide_eq_true (p := 1 ≤ s.length ∧ s.length ≤ 64) (by omega), decide_eq_false c33]; rfl)
      | (rw [decide_eq_true (p := 1 ≤ s.length ∧ s.length ≤ 64) (by omega), decide_eq_true c33]; rfl))
  simp only [Int.toNat_natCast] at c14
  refine O.yes rfl (isF rfl c14) (O.mv (O.yes rfl (isF rfl c14) (O.gtrU (m := 8) (b := 126#8) rfl rfl (O.pickF (isF rfl c14) (K10 (C.condD rfl (fun c17 => ?_) (fun c17 => ?_)))))))
  ·
   simp only [Int.toNat_natCast] at c17
   refine C.sr fun K12 => O.asg (K12 (C.ret (Outs.one rfl rfl ?_)))
   first
   | exact ⟨congrArg Value.bool (Cn.okName_all hk2 (Cn.okC_lo c14)).symm, (Ext.trans e1 e_1)⟩
   | exact ⟨congrArg Value.bool (Cn.okName_all hk2 (Cn.okC_hi c17)).symm, (Ext.trans e1 e_1)⟩
   | (refine ⟨congrArg Value.bool ?_, (Ext.trans e1 e_1)⟩
      unfold Cn.okName
      rw [hall]
      first
      | (rw [decide_eq_false (p := 1 ≤ s.length ∧ s.length ≤ 64) (by omega)]; rfl)
      | (rw [decide_eq_true (p := 1 ≤ s.length ∧ s.length ≤ 64) (by omega), decide_eq_false c33]; rfl)
      | (rw [decide_eq_true (p := 1 ≤ s.length ∧ s.length ≤ 64) (by omega), decide_eq_true c33]; rfl))
  simp only [Int.toNat_natCast] at c17
  refine C.skip (K8 (K7 (C.region (O.ad s8_1 rfl (O.mv (O.nil (⟨k + 1, ⟨rfl, s0_1, s6_1, s7_1, e_1, ?_⟩, by first | omega | (simp only []; omega)⟩)))))))
  refine ⟨by omega, fun i hi hik => ?_⟩
  rcases Nat.lt_or_eq_of_le (Nat.le_of_lt_succ hik) with h | rfl
  ·exact hI i hi h
  ·exact Cn.okC_ok c14 c17
 have hall : s.all Cn.okC = true := Cn.all_yes fun i hi => hI i hi (by omega)
 refine C.exit (K4 (K2 (C.sr fun K13 => O.mv (O.lenS underlying9 s0_1 (O.geqI rfl rfl (O.mv (O.cut 4 (fun f f' => f' 26 = .bool (decide ((s.length : Int) ≥ 1 ∧ (s.length : Int) ≤ 64)) ∧ f' 0 = f 0) ?_ ?_)))))))
 ·
  refine O.splitD (x := .tmp 22) rfl (fun c22 => ?_) (fun c22 => ?_)
  ·
   refine O.yes rfl (isT rfl c22) (O.mv (O.yes rfl (isT rfl c22) (O.lenS underlying9 s0_1 (O.yes rfl (isT rfl c22) (O.leqI rfl rfl (O.pickT (isT rfl c22) (O.nil (⟨⟨?_, rfl⟩, rfl⟩))))))))
   exact dJ rfl
  refine O.no rfl (noB (isF rfl c22) rfl) (O.no rfl (noB (isF rfl c22) rfl) (O.no rfl (noB (isF rfl c22) rfl) (O.pickF (isF rfl c22) (O.nil (⟨⟨?_, rfl⟩, rfl⟩)))))
  exact dJ rfl
 rintro f_2 ⟨s26_2, s0_2⟩
 refine O.mv (O.splitD (x := .tmp 27) s26_2 (fun c27 => ?_) (fun c27 => ?_))
 ·
  refine O.yes rfl (isT s26_2 c27) (O.mv (O.yes rfl (isT s26_2 c27) (O.call call45 (args2 (Eq.trans s0_2 s0_1) rfl) (trim_spec s _ (by omega)) ?_)))
  rintro v_29 w3 ⟨rfl, e3⟩
  have z3 := e3.size
  refine O.yes rfl (isT s26_2 c27) (O.mv (O.yes rfl (isT s26_2 c27) (O.eqlS rfl (Eq.trans s0_2 s0_1) (O.pickT (isT s26_2 c27) (O.mv (O.splitD (x := .tmp 33) rfl (fun c33 => ?_) (fun c33 => ?_)))))))
  ·
   refine O.yes rfl (isT rfl c33) (O.mv (O.yes rfl (isT rfl c33) (O.call call46 (args2 (Eq.trans s0_2 s0_1) rfl) (has2_spec s _ (by omega) (((mx.keep e1).keep e_1).keep e3)) ?_)))
   rintro v_35 w4 ⟨rfl, e4⟩
   have z4 := e4.size
   refine O.yes rfl (isT rfl c33) (O.not rfl (O.pickT (isT rfl c33) (O.asg (K13 (C.ret (Outs.one rfl rfl ?_))))))
   first
   | exact ⟨congrArg Value.bool (Cn.okName_all hk2 (Cn.okC_lo c14)).symm, (Ext.trans (Ext.trans (Ext.trans e1 e_1) e3) e4)⟩
   | exact ⟨congrArg Value.bool (Cn.okName_all hk2 (Cn.okC_hi c17)).symm, (Ext.trans (Ext.trans (Ext.trans e1 e_1) e3) e4)⟩
   | (refine ⟨congrArg Value.bool ?_, (Ext.trans (Ext.trans (Ext.trans e1 e_1) e3) e4)⟩
      unfold Cn.okName
      rw [hall]
      first
      | (rw [decide_eq_false (p := 1 ≤ s.length ∧ s.length ≤ 64) (by omega)]; rfl)
      | (rw [decide_eq_true (p := 1 ≤ s.length ∧ s.length ≤ 64) (by omega), decide_eq_false c33]; rfl)
      | (rw [decide_eq_true (p := 1 ≤ s.length ∧ s.length ≤ 64) (by omega), decide_eq_true c33]; rfl))
  refine O.no rfl (noB (isF rfl c33) rfl) (O.no rfl (noB (isF rfl c33) rfl) (O.no rfl (noB (isF rfl c33) rfl) (O.pickF (isF rfl c33) (O.asg (K13 (C.ret (Outs.one rfl rfl ?_)))))))
  first
  | exact ⟨congrArg Value.bool (Cn.okName_all hk2 (Cn.okC_lo c14)).symm, (Ext.trans (Ext.trans e1 e_1) e3)⟩
  | exact ⟨congrArg Value.bool (Cn.okName_all hk2 (Cn.okC_hi c17)).symm, (Ext.trans (Ext.trans e1 e_1) e3)⟩
  | (refine ⟨congrArg Value.bool ?_, (Ext.trans (Ext.trans e1 e_1) e3)⟩
     unfold Cn.okName
     rw [hall]
     first
     | (rw [decide_eq_false (p := 1 ≤ s.length ∧ s.length ≤ 64) (by omega)]; rfl)
     | (rw [decide_eq_true (p := 1 ≤ s.length ∧ s.length ≤ 64) (by omega), decide_eq_false c33]; rfl)
     | (rw [decide_eq_true (p := 1 ≤ s.length ∧ s.length ≤ 64) (by omega), decide_eq_true c33]; rfl))
 refine O.no rfl (noB (isF s26_2 c27) rfl) (O.no rfl (noB (isF s26_2 c27) rfl) (O.no rfl (noB (isF s26_2 c27) rfl) (O.no rfl (noB (isF s26_2 c27) rfl) (O.pickF (isF s26_2 c27) (O.mv (O.no rfl (noB rfl rfl) (O.no rfl (noB rfl rfl) (O.no rfl (noB rfl rfl) (O.pickF rfl (O.asg (K13 (C.ret (Outs.one rfl rfl ?_)))))))))))))
 first
 | exact ⟨congrArg Value.bool (Cn.okName_all hk2 (Cn.okC_lo c14)).symm, (Ext.trans e1 e_1)⟩
 | exact ⟨congrArg Value.bool (Cn.okName_all hk2 (Cn.okC_hi c17)).symm, (Ext.trans e1 e_1)⟩
 | (refine ⟨congrArg Value.bool ?_, (Ext.trans e1 e_1)⟩
    unfold Cn.okName
    rw [hall]
    first
    | (rw [decide_eq_false (p := 1 ≤ s.length ∧ s.length ≤ 64) (by omega)]; rfl)
    | (rw [decide_eq_true (p := 1 ≤ s.length ∧ s.length ≤ 64) (by omega), decide_eq_false c33]; rfl)
    | (rw [decide_eq_true (p := 1 ≤ s.length ∧ s.length ≤ 64) (by omega), decide_eq_true c33]; rfl))
theorem nan_spec (w : World) :
 Ret Tryz.prog 21 #[] w (fun v w' => v = fl 9221120237041090560#64 ∧ w' = w) := by
 refine enT [] 2 func21 rfl rfl (C.sr fun K1 => O.asg (K1 (C.sr fun K2 => O.ext ext28 (args1 rfl) (run_fromBits (9221120237041090560#64)) (O.asg (K2 (C.ret (Outs.one rfl rfl ?_)))))))
 exact ⟨rfl, rfl⟩
theorem lcanon_spec (x : BitVec 64) (w : World) :
 Ret Tryz.prog 18 #[fl (x)] w (fun v w' => v = fl (Fl.canon x) ∧ w' = w) := by
 refine enT [fl (x)] 10 func18 rfl rfl (C.sr fun K1 => O.asg (K1 (C.sq fun K2 => C.sr fun K3 => O.mv (O.mv (O.neqF rfl rfl (K3 (C.condD rfl (fun c5 => ?_) (fun c5 => ?_))))))))
 ·
  refine C.sr fun K4 => O.call call21 (argsN) (nan_spec _) ?_
  rintro v_6 w1 ⟨rfl, hw_⟩
  replace hw_ := hw_.symm
  subst hw_
  refine O.asg (K4 (C.ret (Outs.one rfl rfl ?_)))
  first
  | (rw [Fl.canon_nan c5]; exact ⟨rfl, rfl⟩)
  | (rw [Fl.canon_zero c5 c8]; exact ⟨rfl, rfl⟩)
  | (rw [Fl.canon_else c5 c8]; exact ⟨rfl, rfl⟩)
 refine C.skip (K2 (C.sq fun K5 => C.sr fun K6 => O.mv (O.eqlF (b := 0#64) rfl rfl (K6 (C.condD rfl (fun c8 => ?_) (fun c8 => ?_))))))
 ·
  refine C.sr fun K7 => O.asg (K7 (C.ret (Outs.one rfl rfl ?_)))
  first
  | (rw [Fl.canon_nan c5]; exact ⟨rfl, rfl⟩)
  | (rw [Fl.canon_zero c5 c8]; exact ⟨rfl, rfl⟩)
  | (rw [Fl.canon_else c5 c8]; exact ⟨rfl, rfl⟩)
 refine C.skip (K5 (C.sr fun K8 => O.mv (O.asg (K8 (C.ret (Outs.one rfl rfl ?_))))))
 first
 | (rw [Fl.canon_nan c5]; exact ⟨rfl, rfl⟩)
 | (rw [Fl.canon_zero c5 c8]; exact ⟨rfl, rfl⟩)
 | (rw [Fl.canon_else c5 c8]; exact ⟨rfl, rfl⟩)
theorem part_spec (f : BitVec 64) (w : World) :
 Ret Tryz.prog 32 #[fl (f)] w (fun v w' => v = .bool (decide (Rnd.Unit (Fl.canon f))) ∧ Le w w') := by
 refine enT [fl (f)] 12 func32 rfl rfl (C.sr fun K1 => O.asg (K1 (C.sr fun K2 => O.mv (O.call call35 (args1 rfl) (canon_spec _ _) ?_))))
 rintro v_5 w1 ⟨rfl, hw_⟩
 replace hw_ := hw_.symm
 subst hw_
 refine O.asg (K2 (C.sr fun K3 => O.mv (O.geqF (b := 0#64) rfl rfl (O.mv (O.splitD (x := .tmp 8) rfl (fun c8 => ?_) (fun c8 => ?_))))))
 ·
  refine O.yes rfl (isT rfl c8) (O.mv (O.yes rfl (isT rfl c8) (O.leqF (b := 4607182418800017408#64) rfl rfl (O.pickT (isT rfl c8) (O.asg (K3 (C.ret (Outs.one rfl rfl (⟨congrArg Value.bool ?_, (Le.refl _)⟩)))))))))
  first
  | exact (decide_eq_false (fun h => c8 ((Rnd.part_canon f).2 h).1)).symm
  | (by_cases hh : Rnd.Unit (Fl.canon f)
     ·rw [decide_eq_true hh]; exact decide_eq_true ((Rnd.part_canon f).2 hh).2
     ·rw [decide_eq_false hh]; exact decide_eq_false (fun h2 => hh ((Rnd.part_canon f).1 ⟨c8, h2⟩)))
 refine O.no rfl (noB (isF rfl c8) rfl) (O.no rfl (noB (isF rfl c8) rfl) (O.pickF (isF rfl c8) (O.asg (K3 (C.ret (Outs.one rfl rfl (⟨congrArg Value.bool ?_, (Le.refl _)⟩)))))))
 first
 | exact (decide_eq_false (fun h => c8 ((Rnd.part_canon f).2 h).1)).symm
 | (by_cases hh : Rnd.Unit (Fl.canon f)
    ·rw [decide_eq_true hh]; exact decide_eq_true ((Rnd.part_canon f).2 hh).2
    ·rw [decide_eq_false hh]; exact decide_eq_false (fun h2 => hh ((Rnd.part_canon f).1 ⟨c8, h2⟩)))
theorem priced_spec (c q : Int) (w : World) :
 Ret Tryz.prog 39 #[.int .i64 (c), .int .i64 (q)] w (fun v w' => v = .bool (Ds.okP c q) ∧ Le w w') := by
 refine enT [.int .i64 (c), .int .i64 (q)] 19 func39 rfl rfl (C.sr fun K1 => O.asg (K1 (C.sr fun K2 => O.mv (O.geqI rfl rfl (O.mv (O.splitD (x := .tmp 7) rfl (fun c7 => ?_) (fun c7 => ?_)))))))
 ·
  refine O.yes rfl (isT rfl c7) (O.mv (O.yes rfl (isT rfl c7) (O.leqI rfl rfl (O.pickT (isT rfl c7) (O.mv (O.splitD (x := .tmp 11) rfl (fun c11 => ?_) (fun c11 => ?_)))))))
  ·
   refine O.yes rfl (isT rfl c11) (O.mv (O.yes rfl (isT rfl c11) (O.geqI rfl rfl (O.pickT (isT rfl c11) (O.mv (O.splitD (x := .tmp 15) rfl (fun c15 => ?_) (fun c15 => ?_)))))))
   ·
    refine O.yes rfl (isT rfl c15) (O.mv (O.yes rfl (isT rfl c15) (O.leqI rfl rfl (O.pickT (isT rfl c15) (O.asg (K2 (C.ret (Outs.one rfl rfl (⟨congrArg Value.bool ?_, (Le.refl _)⟩)))))))))
    unfold Ds.okP
    first
    | (rw [decide_eq_false (p := (0 ≤ c ∧ c ≤ 2097152) ∧ (1 ≤ q ∧ q ≤ 2147483647)) (by omega)]; done)
    | (rw [decide_eq_true (p := (0 ≤ c ∧ c ≤ 2097152) ∧ (1 ≤ q ∧ q ≤ 2147483647)) (by omega)]; done)
    | (by_cases hh : q ≤ 2147483647
       ·rw [decide_eq_true hh, decide_eq_true (p := (0 ≤ c ∧ c ≤ 2097152) ∧ (1 ≤ q ∧ q ≤ 2147483647)) (by omega)]
       ·rw [decide_eq_false hh, decide_eq_false (p := (0 ≤ c ∧ c ≤ 2097152) ∧ (1 ≤ q ∧ q ≤ 2147483647)) (by omega)])
   refine O.no rfl (noB (isF rfl c15) rfl) (O.no rfl (noB (isF rfl c15) rfl) (O.pickF (isF rfl c15) (O.asg (K2 (C.ret (Outs.one rfl rfl (⟨congrArg Value.bool ?_, (Le.refl _)⟩)))))))
   unfold Ds.okP
   first
   | (rw [decide_eq_false (p := (0 ≤ c ∧ c ≤ 2097152) ∧ (1 ≤ q ∧ q ≤ 2147483647)) (by omega)]; done)
   | (rw [decide_eq_true (p := (0 ≤ c ∧ c ≤ 2097152) ∧ (1 ≤ q ∧ q ≤ 2147483647)) (by omega)]; done)
   | (by_cases hh : q ≤ 2147483647
      ·rw [decide_eq_true hh, decide_eq_true (p := (0 ≤ c ∧ c ≤ 2097152) ∧ (1 ≤ q ∧ q ≤ 2147483647)) (by omega)]
      ·rw [decide_eq_false hh, decide_eq_false (p := (0 ≤ c ∧ c ≤ 2097152) ∧ (1 ≤ q ∧ q ≤ 2147483647)) (by omega)])
  refine O.no rfl (noB (isF rfl c11) rfl) (O.no rfl (noB (isF rfl c11) rfl) (O.pickF (isF rfl c11) (O.mv (O.no rfl (noB rfl rfl) (O.no rfl (noB rfl rfl) (O.pickF rfl (O.asg (K2 (C.ret (Outs.one rfl rfl (⟨congrArg Value.bool ?_, (Le.refl _)⟩)))))))))))
  unfold Ds.okP
  first
  | (rw [decide_eq_false (p := (0 ≤ c ∧ c ≤ 2097152) ∧ (1 ≤ q ∧ q ≤ 2147483647)) (by omega)]; done)
  | (rw [decide_eq_true (p := (0 ≤ c ∧ c ≤ 2097152) ∧ (1 ≤ q ∧ q ≤ 2147483647)) (by omega)]; done)
  | (by_cases hh : q ≤ 2147483647
     ·rw [decide_eq_true hh, decide_eq_true (p := (0 ≤ c ∧ c ≤ 2097152) ∧ (1 ≤ q ∧ q ≤ 2147483647)) (by omega)]
     ·rw [decide_eq_false hh, decide_eq_false (p := (0 ≤ c ∧ c ≤ 2097152) ∧ (1 ≤ q ∧ q ≤ 2147483647)) (by omega)])
 refine O.no rfl (noB (isF rfl c7) rfl) (O.no rfl (noB (isF rfl c7) rfl) (O.pickF (isF rfl c7) (O.mv (O.no rfl (noB rfl rfl) (O.no rfl (noB rfl rfl) (O.pickF rfl (O.mv (O.no rfl (noB rfl rfl) (O.no rfl (noB rfl rfl) (O.pickF rfl (O.asg (K2 (C.ret (Outs.one rfl rfl (⟨congrArg Value.bool ?_, (Le.refl _)⟩)))))))))))))))
 unfold Ds.okP
 first
 | (rw [decide_eq_false (p := (0 ≤ c ∧ c ≤ 2097152) ∧ (1 ≤ q ∧ q ≤ 2147483647)) (by omega)]; done)
 | (rw [decide_eq_true (p := (0 ≤ c ∧ c ≤ 2097152) ∧ (1 ≤ q ∧ q ≤ 2147483647)) (by omega)]; done)
 | (by_cases hh : q ≤ 2147483647
    ·rw [decide_eq_true hh, decide_eq_true (p := (0 ≤ c ∧ c ≤ 2097152) ∧ (1 ≤ q ∧ q ≤ 2147483647)) (by omega)]
    ·rw [decide_eq_false hh, decide_eq_false (p := (0 ≤ c ∧ c ≤ 2097152) ∧ (1 ≤ q ∧ q ≤ 2147483647)) (by omega)])
theorem valid_spec (r : Ds.Rule) (w : World) (mx : Mx w) :
 Ret Tryz.prog 8 #[Ds.rv r] w (fun v w' => v = .bool (Ds.okR r) ∧ Le w w') := by
 refine enT [Ds.rv r] 21 func8 rfl rfl (C.sr fun K1 => O.box (v := Ds.rv r) rfl (fun b1 w1 hb1 hz1 e1 => ?_))
 have z1 := e1.size
 have h1 := hz1.own
 have hl1 := h1.lt
 refine O.asg (K1 (C.sr fun K2 => O.fa underlying24 rfl sizeOf9 rfl (O.loadO isAgg9 rfl h1 rfl (O.call call31 (args1 rfl) (okName_spec r.name _ r.hn (mx.keep e1)) ?_))))
 rintro v_5 w2 ⟨rfl, e2⟩
 have z2 := e2.size
 refine O.mv (O.split (x := .tmp 6) rfl (fun c6 => ?_) (fun c6 => ?_))
 ·
  refine O.yes rfl (isT' rfl c6) (O.fa underlying24 rfl sizeOf3 rfl (O.yes rfl (isT' rfl c6) (O.loadO isAgg3 rfl (h1.keep e2) rfl (O.yes rfl (isT' rfl c6) (O.geqI rfl rfl (O.pickT (isT' rfl c6) (O.mv (O.splitD (x := .tmp 11) rfl (fun c11 => ?_) (fun c11 => ?_)))))))))
  ·
   refine O.yes rfl (isT rfl c11) (O.fa underlying24 rfl sizeOf3 rfl (O.yes rfl (isT rfl c11) (O.loadO isAgg3 rfl (h1.keep e2) rfl (O.yes rfl (isT rfl c11) (O.leqI rfl rfl (O.pickT (isT rfl c11) (O.mv (O.splitD (x := .tmp 16) rfl (fun c16 => ?_) (fun c16 => ?_)))))))))
   ·
    refine O.yes rfl (isT rfl c16) (O.fa underlying24 rfl sizeOf22 rfl (O.yes rfl (isT rfl c16) (O.loadO isAgg22 rfl (h1.keep e2) rfl (O.yes rfl (isT rfl c16) (O.call call32 (args1 rfl) (part_spec r.fac _) ?_)))))
    rintro v_19 w3 ⟨rfl, e3⟩
    have z3 := e3.size
    refine O.pickT (isT rfl c16) (O.asg (K2 (C.ret (Outs.one rfl rfl (⟨congrArg Value.bool ?_, (Ext.trans (Ext.trans e1 e2) e3)⟩)))))
    unfold Ds.okR
    first
    | (rw [c6]; rfl)
    | (rw [c6, decide_eq_false (p := 1 ≤ r.lo ∧ r.lo ≤ 2147483647) (by omega)]; rfl)
    | (rw [c6, decide_eq_true (p := 1 ≤ r.lo ∧ r.lo ≤ 2147483647) (by omega)]; rfl)
   refine O.no rfl (noB (isF rfl c16) rfl) (O.no rfl (noB (isF rfl c16) rfl) (O.no rfl (noB (isF rfl c16) rfl) (O.pickF (isF rfl c16) (O.asg (K2 (C.ret (Outs.one rfl rfl (⟨congrArg Value.bool ?_, (Ext.trans e1 e2)⟩))))))))
   unfold Ds.okR
   first
   | (rw [c6]; rfl)
   | (rw [c6, decide_eq_false (p := 1 ≤ r.lo ∧ r.lo ≤ 2147483647) (by omega)]; rfl)
   | (rw [c6, decide_eq_true (p := 1 ≤ r.lo ∧ r.lo ≤ 2147483647) (by omega)]; rfl)
  refine O.no rfl (noB (isF rfl c11) rfl) (O.no rfl (noB (isF rfl c11) rfl) (O.no rfl (noB (isF rfl c11) rfl) (O.pickF (isF rfl c11) (O.mv (O.no rfl (noB rfl rfl) (O.no rfl (noB rfl rfl) (O.no rfl (noB rfl rfl) (O.pickF rfl (O.asg (K2 (C.ret (Outs.one rfl rfl (⟨congrArg Value.bool ?_, (Ext.trans e1 e2)⟩)))))))))))))
  unfold Ds.okR
  first
  | (rw [c6]; rfl)
  | (rw [c6, decide_eq_false (p := 1 ≤ r.lo ∧ r.lo ≤ 2147483647) (by omega)]; rfl)
  | (rw [c6, decide_eq_true (p := 1 ≤ r.lo ∧ r.lo ≤ 2147483647) (by omega)]; rfl)
 refine O.no rfl (noB (isF' rfl c6) rfl) (O.no rfl (noB (isF' rfl c6) rfl) (O.no rfl (noB (isF' rfl c6) rfl) (O.pickF (isF' rfl c6) (O.mv (O.no rfl (noB rfl rfl) (O.no rfl (noB rfl rfl) (O.no rfl (noB rfl rfl) (O.pickF rfl (O.mv (O.no rfl (noB rfl rfl) (O.no rfl (noB rfl rfl) (O.no rfl (noB rfl rfl) (O.pickF rfl (O.asg (K2 (C.ret (Outs.one rfl rfl (⟨congrArg Value.bool ?_, (Ext.trans e1 e2)⟩))))))))))))))))))
 unfold Ds.okR
 first
 | (rw [c6]; rfl)
 | (rw [c6, decide_eq_false (p := 1 ≤ r.lo ∧ r.lo ≤ 2147483647) (by omega)]; rfl)
 | (rw [c6, decide_eq_true (p := 1 ≤ r.lo ∧ r.lo ≤ 2147483647) (by omega)]; rfl)
theorem floor_spec (x : BitVec 64) (w : World) (hp : Rnd.Pos x) :
 Ret Tryz.prog 52 #[fl (x)] w (fun v w' => v = fl (Rnd.nf (Rnd.wh x)) ∧ w' = w) := by
 refine enT [fl (x)] 7 func52 rfl rfl (C.sr fun K1 => O.asg (K1 (C.sq fun K2 => C.condT rfl (C.sr fun K3 => O.mv (O.ext ext67 (args1 rfl) (Rnd.run_floor_pos hp) (O.asg (K3 (C.ret (Outs.one rfl rfl ?_)))))))))
 exact ⟨rfl, rfl⟩
theorem price_spec (c q : Nat) (f : BitVec 64) (w : World) (hc : c ≤ 2097152) (hq : q ≤ 2147483647) (hu : Rnd.Unit (Fl.canon f)) :
 Ret Tryz.prog 40 #[.int .i64 ((c : Int)), .int .i64 ((q : Int)), fl (f)] w (fun v w' => v = .int .i64 (Rnd.price (c * q) (Fl.canon f) : Nat) ∧ Le w w') := by
 have hcq := Nat.mul_le_mul hc hq
 have hn : c * q < 9007199254740992 := by omega
 have hpp := Rnd.prod_pos hn hu
 have hpl := Rnd.price_le hn hu
 have hpw : Rnd.wh (Rnd.pm (Rnd.nf (c * q)) (Fl.canon f)) < 9007199254740992 := by unfold Rnd.price at hpl; omega
 refine enT [.int .i64 ((c : Int)), .int .i64 ((q : Int)), fl (f)] 16 func40 rfl rfl (C.sr fun K1 => O.asg (K1 (C.sr fun K2 => O.mv (O.mv (O.mulI rfl rfl (by have hz : ((c * q : Nat) : Int) = (c : Int) * (q : Int) := Int.natCast_mul _ _; unfold InI; omega) (O.cast (v' := .int .i64 ((c * q : Nat) : Int)) (congrArg (Value.int .i64) (Int.natCast_mul _ _).symm) (O.convIF underlying3 underlying22 rfl (O.cast (v' := fl (Rnd.nf (c * q))) (congrArg fl (Rnd.ofI_nf (c * q))) (O.mv (O.call call35 (args1 rfl) (canon_spec _ _) ?_))))))))))
 rintro v_12 w1 ⟨rfl, hw_⟩
 replace hw_ := hw_.symm
 subst hw_
 refine O.mulF rfl rfl (fun r13 w1 e1 hf13 => ?_)
 have z1 := e1.size
 obtain rfl := Rnd.mul_pos (Rnd.nf_pos hn) hu.pos hf13
 refine O.call call52 (args1 rfl) (floor_spec _ _ hpp) ?_
 rintro v_14 w2 ⟨rfl, hw_⟩
 replace hw_ := hw_.symm
 subst hw_
 refine O.convFI underlying22 underlying3 (Rnd.toInt_pos (Rnd.nf_pos hpw) (by rw [Rnd.wh_nf hpw]; exact hpw)) rfl (O.cast (v' := .int .i64 (Rnd.price (c * q) (Fl.canon f) : Nat)) (congrArg (Value.int .i64) (by rw [Rnd.wh_nf hpw]; rfl)) (O.asg (K2 (C.ret (Outs.one rfl rfl ?_)))))
 exact ⟨rfl, e1⟩
end Go.Proofs.YtbadfphdniliaaaGreatDoor
end
section
namespace Go.Proofs.YtbadfphdniliaaaGreatDoor
open Go.Pn Go.RowKit _root_.Go.Proofs.Tryz
theorem inf3 : ∃ ie, Tryz.prog.info? 3 = some ie ∧ ie.size = 1 ∧ ie.bytes = 8 ∧ ie.zero = some (.int .i64 0) := by
 have h : (Tryz.prog.info? 3).isSome = true := by kernel_rfl
 exact ⟨(Tryz.prog.info? 3).get h, (Option.some_get h).symm, by kernel_rfl, by kernel_rfl, by kernel_rfl⟩
theorem isNaNi_spec (x : Int) (w : World) :
 Ret Tryz.prog 55 #[.int .i64 (x)] w (fun v w' => v = .bool false ∧ w' = w) := by
 refine enT [.int .i64 (x)] 6 func55 rfl rfl (C.sr fun K1 => O.asg (K1 (C.sr fun K2 => O.mv (O.mv (O.neqI rfl rfl (O.cast (v' := .bool false) (congrArg Value.bool (by exact decide_eq_false (fun h => h rfl))) (O.asg (K2 (C.ret (Outs.one rfl rfl ?_))))))))))
 exact ⟨rfl, rfl⟩
theorem icmp_spec (a b : Int) (w : World) :
 Ret Tryz.prog 43 #[.int .i64 (a), .int .i64 (b)] w (fun v w' => v = .int .i64 (Dt.icmp a b) ∧ w' = w) := by
 refine enT [.int .i64 (a), .int .i64 (b)] 20 func43 rfl rfl (C.sr fun K1 => O.asg (K1 (C.sr fun K2 => O.mv (O.call call55 (args1 rfl) (isNaNi_spec _ _) ?_))))
 rintro v_8 w1 ⟨rfl, hw_⟩
 replace hw_ := hw_.symm
 subst hw_
 refine O.asg (K2 (C.sr fun K3 => O.mv (O.call call55 (args1 rfl) (isNaNi_spec _ _) ?_)))
 rintro v_10 w1 ⟨rfl, hw_⟩
 replace hw_ := hw_.symm
 subst hw_
 refine O.asg (K3 (C.sq fun K4 => C.sr fun K5 => O.mv (K5 (C.condF rfl (C.skip (K4 (C.sq fun K6 => C.sr fun K7 => O.mv (K7 (C.condF rfl (C.skip (K6 (C.sq fun K8 => C.sr fun K9 => O.mv (O.mv (O.lssI rfl rfl (K9 (C.condD rfl (fun c16 => ?_) (fun c16 => ?_)))))))))))))))))
 ·
  refine C.sr fun K10 => O.asg (K10 (C.ret (Outs.one rfl rfl ?_)))
  unfold Dt.icmp
  first
  | (rw [if_pos (by assumption)]; exact ⟨rfl, rfl⟩)
  | (rw [if_neg (by assumption), if_pos (by assumption)]; exact ⟨rfl, rfl⟩)
  | (rw [if_neg (by assumption), if_neg (by assumption)]; exact ⟨rfl, rfl⟩)
 refine C.skip (K8 (C.sq fun K11 => C.sr fun K12 => O.mv (O.mv (O.gtrI rfl rfl (K12 (C.condD rfl (fun c19 => ?_) (fun c19 => ?_)))))))
 ·
  refine C.sr fun K13 => O.asg (K13 (C.ret (Outs.one rfl rfl ?_)))
  unfold Dt.icmp
  first
  | (rw [if_pos (by assumption)]; exact ⟨rfl, rfl⟩)
  | (rw [if_neg (by assumption), if_pos (by assumption)]; exact ⟨rfl, rfl⟩)
  | (rw [if_neg (by assumption), if_neg (by assumption)]; exact ⟨rfl, rfl⟩)
 refine C.skip (K11 (C.sr fun K14 => O.asg (K14 (C.ret (Outs.one rfl rfl ?_)))))
 unfold Dt.icmp
 first
 | (rw [if_pos (by assumption)]; exact ⟨rfl, rfl⟩)
 | (rw [if_neg (by assumption), if_pos (by assumption)]; exact ⟨rfl, rfl⟩)
 | (rw [if_neg (by assumption), if_neg (by assumption)]; exact ⟨rfl, rfl⟩)
theorem cor_spec (v0 : Value) (a b : Int) (F : Nat → Prop) (w : World) (hl : Sl Dt.intE w F v0 [a, b]) :
 Ret Tryz.prog 42 #[v0] w (fun v w' => v = .int .i64 (if a ≠ 0 then a else b) ∧ w' = w) := by
 refine enT [v0] 18 func42 rfl rfl (C.sr fun K1 => O.asg (K1 (C.sr fun K2 => O.asg (K2 (C.sq fun K3 => C.sr fun K4 => O.mv (O.len underlying43 rfl hl (O.mv (K4 (C.bl fun K5 => C.loop0 (σ := Nat) (fun f0 w0 k f w => f 8 = .int .i64 (k) ∧ f 3 = f0 3 ∧ f 6 = f0 6 ∧ f 7 = f0 7 ∧ w = w0 ∧ k ≤ 2 ∧ ∀ i, (h : i < 2) → i < k → [a, b][i] = 0) (fun k => 2 - k) 0 ?_ ?_)))))))))
 ·
  refine ⟨rfl, rfl, rfl, rfl, rfl, ?_⟩
  exact ⟨by omega, fun i _ h => absurd h (by omega)⟩
 rintro k f_1 wx ⟨s8_1, s3_1, s6_1, s7_1, rfl, ⟨hk, hI⟩⟩
 refine C.sr fun K6 => O.lssI s8_1 s7_1 (K6 (C.sq fun K7 => C.condD rfl (fun c9 => ?_) (fun c9 => ?_)))
 ·
  have hk2 : k < 2 := by simp at c9; omega
  refine C.skip (K7 (C.sq fun K8 => C.bl fun K9 => C.sr fun K10 => O.idx underlying43 sizeOf3 rfl s6_1 hl s8_1 (by omega) (fun a10 h10 => O.load1F (G := Dt.intF) isAgg3 rfl rfl rfl h10 ?_)))
  obtain ⟨u, hu⟩ : ∃ u : Int, u = [a, b][k] := ⟨_, rfl⟩
  refine O.cast (v' := .int .i64 u) (by rw [hu]; rfl) (O.asg (K10 (C.sr fun K11 => O.mv (O.mv (O.neqI rfl s3_1 (K11 (C.condD rfl (fun c14 => ?_) (fun c14 => ?_))))))))
  ·
   refine C.sr fun K12 => O.mv (O.asg (K12 (C.ret (Outs.one rfl rfl ?_))))
   first
   | (refine ⟨congrArg (Value.int .i64) ?_, rfl⟩
      have h01 : k = 0 ∨ k = 1 := by omega
      rcases h01 with rfl | rfl
      ·have e0 : u = a := hu
       rw [← e0, if_pos c14]
      ·have e0 : a = 0 := hI 0 (by omega) (by omega)
       have e1 : u = b := hu
       rw [if_neg (fun h => h e0), e1])
   | (have hk2 : k = 2 := by simp at c9; omega
      have e0 : a = 0 := hI 0 (by omega) (by omega)
      have e1 : b = 0 := hI 1 (by omega) (by omega)
      refine ⟨congrArg (Value.int .i64) ?_, rfl⟩
      rw [if_neg (fun h => h e0), e1])
  refine C.skip (K9 (K8 (C.region (O.ad s8_1 rfl (O.mv (O.nil (⟨k + 1, ⟨rfl, s3_1, s6_1, s7_1, rfl, ?_⟩, by first | omega | (simp only []; omega)⟩)))))))
  refine ⟨by omega, fun i hi2 hik => ?_⟩
  rcases Nat.lt_or_eq_of_le (Nat.le_of_lt_succ hik) with h | rfl
  ·exact hI i hi2 h
  ·rw [← hu]; exact Decidable.of_not_not c14
 refine C.exit (K5 (K3 (C.sr fun K13 => O.mv (O.asg (K13 (C.ret (Outs.one rfl s3_1 ?_)))))))
 first
 | (refine ⟨congrArg (Value.int .i64) ?_, rfl⟩
    have h01 : k = 0 ∨ k = 1 := by omega
    rcases h01 with rfl | rfl
    ·have e0 : u = a := hu
     rw [← e0, if_pos c14]
    ·have e0 : a = 0 := hI 0 (by omega) (by omega)
     have e1 : u = b := hu
     rw [if_neg (fun h => h e0), e1])
 | (have hk2 : k = 2 := by simp at c9; omega
    have e0 : a = 0 := hI 0 (by omega) (by omega)
    have e1 : b = 0 := hI 1 (by omega) (by omega)
    refine ⟨congrArg (Value.int .i64) ?_, rfl⟩
    rw [if_neg (fun h => h e0), e1])
end Go.Proofs.YtbadfphdniliaaaGreatDoor
end
section
namespace Go.Proofs.YtbadfphdniliaaaGreatDoor
open Go.Pn Go.RowKit Go.Proofs _root_.Go.Proofs.Tryz
attribute [local irreducible] O C D
theorem tup2 {a b c d : Int} (h1 : a = c) (h2 : b = d) : Value.tuple #[.int .i64 a, .int .i64 b] = Value.tuple #[.int .i64 c, .int .i64 d] := by rw [h1, h2]
theorem tup3 {a b c d e f : Int} (h1 : a = d) (h2 : b = e) (h3 : c = f) : Value.tuple #[.int .i64 a, .int .i64 b, .int .i64 c] = Value.tuple #[.int .i64 d, .int .i64 e, .int .i64 f] := by rw [h1, h2, h3]
theorem tupf {a c d f : Int} {b e : BitVec 64} (h1 : a = d) (h2 : b = e) (h3 : c = f) : Value.tuple #[.int .i64 a, fl b, .int .i64 c] = Value.tuple #[.int .i64 d, fl e, .int .i64 f] := by rw [h1, h2, h3]
theorem inf24 : ∃ ie, Tryz.prog.info? 24 = some ie ∧ ie.size = 3 ∧ ie.bytes = 32 ∧ ie.zero = some (.agg #[.string ⟨#[]⟩, .int .i64 0, .float .f64 0]) := by
 have h : (Tryz.prog.info? 24).isSome = true := by kernel_rfl
 exact ⟨(Tryz.prog.info? 24).get h, (Option.some_get h).symm, by kernel_rfl, by kernel_rfl, by kernel_rfl⟩
theorem rbad_spec (r : Ds.Rule) (w : World) (mx : Mx w) :
 Ret Tryz.prog 54 #[Ds.rv r] w (fun v w' => v = .bool (Ds.badR r) ∧ Le w w') := by
 refine enT [Ds.rv r] 6 func54 rfl rfl (C.sr fun K1 => O.box (v := Ds.rv r) rfl (fun b1 w1 hb1 hz1 e1 => ?_))
 have z1 := e1.size
 have h1 := hz1.own
 have hl1 := h1.lt
 refine O.asg (K1 (C.sr fun K2 => O.loadOA isAgg24 sizeOf24 rfl h1 (leB rfl) (O.call call8 (args1 rfl) (valid_spec r _ (mx.keep e1)) ?_)))
 rintro v_4 w2 ⟨rfl, e2⟩
 have z2 := e2.size
 refine O.not rfl (O.asg (K2 (C.ret (Outs.one rfl rfl ?_))))
 exact ⟨rfl, (Ext.trans e1 e2)⟩
theorem pred_rbad (w : World) (mx : Mx w) : Pred Tryz.prog (fun _ => False) w (.func (.func 54) #[] #[]) Ds.rv Ds.badR := ⟨54, [], rfl, call54, fun r w' e => rbad_spec r w' (mx.keep e)⟩
theorem indexR_spec (v0 vf : Value) (l : List Ds.Rule) (F M : Nat → Prop) (p : Ds.Rule → Bool) (w : World) (hl : Sl Ds.ruleF.enc w F v0 l) (hp : Pred Tryz.prog M w vf Ds.rv p) :
 Ret Tryz.prog 69 #[v0, vf] w (fun v w' => v = .int .i64 (Cn.idx p l) ∧ Le w w') := by
 have hle := hl.le
 refine enT [v0, vf] 19 func69 rfl rfl (C.sr fun K1 => O.asg (K1 (C.sq fun K2 => C.sr fun K3 => O.mv (O.len underlying32 rfl hl (O.mv (K3 (C.bl fun K4 => C.loop0 (σ := Nat) (fun f0 w0 k f wz => f 8 = .int .i64 (k) ∧ f 0 = f0 0 ∧ f 1 = f0 1 ∧ f 7 = f0 7 ∧ Le w wz ∧ k ≤ l.length ∧ ∀ i, ∀ h : i < l.length, i < k → p l[i] = false) (fun k => l.length - k) 0 ?_ ?_)))))))
 ·
  refine ⟨rfl, rfl, rfl, rfl, (Le.refl _), ?_⟩
  exact ⟨Nat.zero_le _, fun i h k => absurd k (Nat.not_lt_zero _)⟩
 rintro k f_1 w1 ⟨s8_1, s0_1, s1_1, s7_1, e_1, ⟨hk, hI⟩⟩
 have z_1 := e_1.size
 refine C.sr fun K5 => O.lssI s8_1 s7_1 (K5 (C.sq fun K6 => C.condD rfl (fun c9 => ?_) (fun c9 => ?_)))
 ·
  have hk2 : k < l.length := by omega
  refine C.skip (K6 (C.sq fun K7 => C.bl fun K8 => C.sr fun K9 => O.mv (O.asg (K9 (C.sr fun K10 => O.mv (O.mv (O.mv (O.idx underlying32 sizeOf24 rfl s0_1 (hl.keep e_1) s8_1 (by omega) (fun a14 h14 => O.loadG (G := Ds.ruleF) isAgg24 sizeOf24 rfl h14 (O.callP (_) (hp.keep e_1) s1_1 rfl (fun w2 e2 => ?_)))))))))))
  have z2 := e2.size
  refine K10 (C.cond rfl (fun c16 => ?_) (fun c16 => ?_))
  ·
   simp only [Int.toNat_natCast] at c16
   refine C.sr fun K11 => O.mv (O.asg (K11 (C.ret (Outs.one rfl s8_1 ?_))))
   first
   | exact ⟨congrArg (Value.int .i64) (Cn.idx_yes hk2 c16 hI).symm, (Ext.trans e_1 e2)⟩
   | exact ⟨congrArg (Value.int .i64) (Cn.idx_no fun i hi => hI i hi (by omega)).symm, (Ext.trans e_1 e2)⟩
  simp only [Int.toNat_natCast] at c16
  refine C.skip (K8 (K7 (C.region (O.ad s8_1 rfl (O.mv (O.nil (⟨k + 1, ⟨rfl, s0_1, s1_1, s7_1, (Ext.trans e_1 e2), ?_⟩, by first | omega | (simp only []; omega)⟩)))))))
  refine ⟨by omega, fun i hi hik => ?_⟩
  rcases Nat.lt_or_eq_of_le (Nat.le_of_lt_succ hik) with h | rfl
  ·exact hI i hi h
  ·exact c16
 refine C.exit (K4 (K2 (C.sr fun K12 => O.asg (K12 (C.ret (Outs.one rfl rfl ?_))))))
 first
 | exact ⟨congrArg (Value.int .i64) (Cn.idx_yes hk2 c16 hI).symm, e_1⟩
 | exact ⟨congrArg (Value.int .i64) (Cn.idx_no fun i hi => hI i hi (by omega)).symm, e_1⟩
theorem containsR_spec (v0 vf : Value) (l : List Ds.Rule) (F M : Nat → Prop) (p : Ds.Rule → Bool) (w : World) (hl : Sl Ds.ruleF.enc w F v0 l) (hp : Pred Tryz.prog M w vf Ds.rv p) :
 Ret Tryz.prog 53 #[v0, vf] w (fun v w' => v = .bool (l.any p) ∧ Le w w') := by
 refine enT [v0, vf] 9 func53 rfl rfl (C.sr fun K1 => O.asg (K1 (C.sr fun K2 => O.mv (O.mv (O.call call69 (args2 rfl rfl) (indexR_spec _ _ _ _ _ _ _ hl hp) ?_)))))
 rintro v_7 w1 ⟨rfl, e1⟩
 have z1 := e1.size
 refine O.geqI rfl rfl (O.asg (K2 (C.ret (Outs.one rfl rfl ?_))))
 exact ⟨congrArg Value.bool (Cn.idx_any l), e1⟩
theorem check_spec (c q : Int) (v2 : Value) (l : List Ds.Rule) (F : Nat → Prop) (w : World) (hl : Sl Ds.ruleF.enc w F v2 l) (mx : Mx w) :
 Ret Tryz.prog 41 #[.int .i64 (c), .int .i64 (q), v2] w (fun v w' => v = .int .i64 (Ds.errOf c q l) ∧ Le w w') := by
 have hle := hl.le
 refine enT [.int .i64 (c), .int .i64 (q), v2] 20 func41 rfl rfl (C.sr fun K1 => O.asg (K1 (C.sq fun K2 => C.bl fun K3 => C.sr fun K4 => O.mv (O.len underlying32 rfl hl (O.gtrI rfl rfl (O.asg (K4 (C.condD rfl (fun c7 => ?_) (fun c7 => ?_)))))))))
 ·
  refine C.sr fun K5 => O.asg (K5 (C.ret (Outs.one rfl rfl (⟨congrArg (Value.int .i64) ?_, (Le.refl _)⟩))))
  unfold Ds.errOf
  first
  | (rw [if_pos (by omega)]; done)
  | (rw [if_neg (by omega), c16, Bool.true_or]; rfl)
  | (rw [if_neg (by omega), c16, c11]; rfl)
 refine C.sr fun K6 => O.mv (O.mv (O.call call39 (args2 rfl rfl) (priced_spec _ _ _) ?_))
 rintro v_14 w1 ⟨rfl, e1⟩
 have z1 := e1.size
 refine O.not rfl (O.mv (O.split (x := .tmp 16) rfl (fun c16 => ?_) (fun c16 => ?_)))
 ·
  refine O.no rfl (noB (isT' rfl c16) rfl) (O.no rfl (noB (isT' rfl c16) rfl) (O.pickT (isT' rfl c16) (O.asg (K6 (C.condT rfl (C.sr fun K7 => O.asg (K7 (C.ret (Outs.one rfl rfl (⟨congrArg (Value.int .i64) ?_, e1⟩))))))))))
  unfold Ds.errOf
  first
  | (rw [if_pos (by omega)]; done)
  | (rw [if_neg (by omega), c16, Bool.true_or]; rfl)
  | (rw [if_neg (by omega), c16, c11]; rfl)
 refine O.yes rfl (isF' rfl c16) (O.mv (O.yes rfl (isF' rfl c16) (O.call call53 (args2 rfl rfl) (containsR_spec _ _ _ _ (fun _ => False) Ds.badR _ (hl.keep e1) (pred_rbad _ (mx.keep e1))) ?_)))
 rintro v_18 w2 ⟨rfl, e2⟩
 have z2 := e2.size
 refine O.pickF (isF' rfl c16) (O.asg (K6 (C.cond rfl (fun c11 => ?_) (fun c11 => ?_))))
 ·
  refine C.sr fun K8 => O.asg (K8 (C.ret (Outs.one rfl rfl (⟨congrArg (Value.int .i64) ?_, (Ext.trans e1 e2)⟩))))
  unfold Ds.errOf
  first
  | (rw [if_pos (by omega)]; done)
  | (rw [if_neg (by omega), c16, Bool.true_or]; rfl)
  | (rw [if_neg (by omega), c16, c11]; rfl)
 refine C.skip (K3 (K2 (C.sr fun K9 => O.asg (K9 (C.ret (Outs.one rfl rfl (⟨congrArg (Value.int .i64) ?_, (Ext.trans e1 e2)⟩)))))))
 unfold Ds.errOf
 first
 | (rw [if_pos (by omega)]; done)
 | (rw [if_neg (by omega), c16, Bool.true_or]; rfl)
 | (rw [if_neg (by omega), c16, c11]; rfl)
theorem dprice_spec (c q : Int) (f : BitVec 64) (w : World) :
 Ret Tryz.prog 24 #[.int .i64 (c), .int .i64 (q), fl (f)] w (fun v w' => v = .tuple #[.int .i64 (Ds.priceE c q f), .int .i64 (Ds.priceN c q f)] ∧ Le w w') := by
 refine enT [.int .i64 (c), .int .i64 (q), fl (f)] 21 func24 rfl rfl (C.sr fun K1 => O.asg (O.asg (K1 (C.sq fun K2 => C.sr fun K3 => O.mv (O.mv (O.call call39 (args2 rfl rfl) (priced_spec _ _ _) ?_))))))
 rintro v_10 w1 ⟨rfl, e1⟩
 have z1 := e1.size
 refine O.not rfl (O.mv (O.split (x := .tmp 12) rfl (fun c12 => ?_) (fun c12 => ?_)))
 ·
  have hno : (Ds.okP c q && decide (Rnd.Unit (Fl.canon f))) = false := by rw [show Ds.okP c q = false by simpa using c12]; rfl
  refine O.no rfl (noB (isT' rfl c12) rfl) (O.no rfl (noB (isT' rfl c12) rfl) (O.no rfl (noB (isT' rfl c12) rfl) (O.pickT (isT' rfl c12) (K3 (C.condT rfl (C.sr fun K4 => O.asg (O.asg (K4 (C.ret (Outs.two rfl rfl rfl ?_))))))))))
  first
  | exact ⟨tup2 ep1.symm ep2.symm, e1⟩
  | exact ⟨tup2 (if_neg (by rw [hno]; decide)).symm (if_neg (by rw [hno]; decide)).symm, e1⟩
 have hok : Ds.okP c q = true := by simpa using c12
 refine O.yes rfl (isF' rfl c12) (O.mv (O.yes rfl (isF' rfl c12) (O.call call32 (args1 rfl) (part_spec _ _) ?_)))
 rintro v_14 w2 ⟨rfl, e2⟩
 have z2 := e2.size
 refine O.yes rfl (isF' rfl c12) (O.not rfl (O.pickF (isF' rfl c12) (K3 (C.cond rfl (fun c16 => ?_) (fun c16 => ?_)))))
 ·
  (try have hno : (Ds.okP c q && decide (Rnd.Unit (Fl.canon f))) = false := by rw [show decide (Rnd.Unit (Fl.canon f)) = false by simpa using c16, Bool.and_false])
  refine C.sr fun K5 => O.asg (O.asg (K5 (C.ret (Outs.two rfl rfl rfl ?_))))
  first
  | exact ⟨tup2 ep1.symm ep2.symm, (Ext.trans e1 e2)⟩
  | exact ⟨tup2 (if_neg (by rw [hno]; decide)).symm (if_neg (by rw [hno]; decide)).symm, (Ext.trans e1 e2)⟩
 have hu : Rnd.Unit (Fl.canon f) := by simpa using c16
 have hyes : (Ds.okP c q && decide (Rnd.Unit (Fl.canon f))) = true := by rw [hok, decide_eq_true hu]; rfl
 have ep1 : Ds.priceE c q f = (Rnd.price (c.toNat * q.toNat) (Fl.canon f) : Nat) := if_pos hyes
 have ep2 : Ds.priceN c q f = 0 := if_pos hyes
 obtain ⟨a, b, rfl, rfl, hc, hq, hab⟩ := Ds.prod_lt hok
 refine C.skip (K2 (C.sr fun K6 => O.mv (O.mv (O.mv (O.call call40 (args3 rfl rfl rfl) (price_spec a b f _ hc hq hu) ?_)))))
 rintro v_20 w3 ⟨rfl, e3⟩
 have z3 := e3.size
 refine O.asg (O.asg (K6 (C.ret (Outs.two rfl rfl rfl ?_))))
 first
 | exact ⟨tup2 ep1.symm ep2.symm, (Ext.trans (Ext.trans e1 e2) e3)⟩
 | exact ⟨tup2 (if_neg (by rw [hno]; decide)).symm (if_neg (by rw [hno]; decide)).symm, (Ext.trans (Ext.trans e1 e2) e3)⟩
set_option maxHeartbeats 4000000 in
theorem dbest_spec (c q : Int) (v2 : Value) (l : List Ds.Rule) (F : Nat → Prop) (w : World) (hl : Sl Ds.ruleF.enc w F v2 l) (mx : Mx w) :
 Ret Tryz.prog 27 #[.int .i64 (c), .int .i64 (q), v2] w (fun v w' => v = .tuple #[.int .i64 (Ds.bestR c q l), .int .i64 (Ds.bestP c q l), .int .i64 (Ds.errOf c q l)] ∧ Le w w') := by
 have hle := hl.le
 obtain ⟨ie3, ti3, ts3, tb3, tz3⟩ := inf3
 refine enT [.int .i64 (c), .int .i64 (q), v2] 64 func27 rfl rfl (C.sr fun K1 => O.asg (O.asg (O.asg (K1 (C.sq fun K2 => C.sr fun K3 => O.mv (O.mv (O.mv (O.call call41 (args3 rfl rfl rfl) (check_spec c q v2 l F _ hl mx) ?_))))))))
 rintro v_16 w1 ⟨rfl, e1⟩
 have z1 := e1.size
 refine O.asg (K3 (C.sr fun K4 => O.mv (O.neqI rfl rfl (K4 (C.condD rfl (fun c18 => ?_) (fun c18 => ?_))))))
 ·
  refine C.sr fun K5 => O.mv (O.asg (O.asg (O.asg (K5 (C.ret (Outs.three rfl rfl rfl rfl ?_))))))
  first
  | exact ⟨tup3 hbR.symm hbP.symm he.symm, e1⟩
  | exact ⟨tup3 (if_neg c18).symm (if_neg c18).symm rfl, e1⟩
 have he : Ds.errOf c q l = 0 := Decidable.of_not_not c18
 obtain ⟨hlen, hok, hbad⟩ := Ds.err_ok he
 have hbR : Ds.bestR c q l = Ds.bst (c.toNat * q.toNat) q l l.length := if_pos he
 have hbP : Ds.bestP c q l = (Ds.least (c.toNat * q.toNat) q l l.length : Nat) := if_pos he
 have htP : Ds.togP c q l = (Rnd.price (c.toNat * q.toNat) (Ds.whole q l) : Nat) := if_pos he
 have htF : Ds.togF c q l = Ds.whole q l := if_pos he
 obtain ⟨a, b, hca, hqb, hc, hq, hab⟩ := Ds.prod_lt hok
 clear hok
 subst hca hqb
 rw [Int.toNat_natCast, Int.toNat_natCast] at hbR hbP htP
 refine C.skip (K2 (C.sr fun K6 => O.mv (O.mv (O.mulI rfl rfl (by have hz : ((a * b : Nat) : Int) = (a : Int) * (b : Int) := Int.natCast_mul _ _; unfold InI; omega) (O.cast (v' := .int .i64 ((a * b : Nat) : Int)) (congrArg (Value.int .i64) (Int.natCast_mul _ _).symm) (O.asg (O.asg (K6 (C.sq fun K7 => C.sr fun K8 => O.mv (O.len underlying32 rfl (hl.keep e1) (O.mv (K8 (C.bl fun K9 => ?_)))))))))))))
 refine C.loop0 (σ := Nat) (fun f0 w0 k f wz => f 25 = .int .i64 ((k : Int)) ∧ f 6 = .int .i64 (Ds.bst (a * b) (b : Int) l k) ∧ f 7 = .int .i64 ((Ds.least (a * b) (b : Int) l k : Nat)) ∧ f 0 = f0 0 ∧ f 1 = f0 1 ∧ f 2 = f0 2 ∧ f 8 = f0 8 ∧ f 23 = f0 23 ∧ f 24 = f0 24 ∧ Le w wz ∧ k ≤ l.length) (fun k => l.length - k) 0 ?_ ?_
 ·
  refine ⟨rfl, (Eq.trans rfl rfl), (Eq.trans rfl (congrArg (Value.int .i64) (by rw [Ds.least_zero]))), rfl, rfl, rfl, rfl, rfl, rfl, e1, ?_⟩
  exact Nat.zero_le _
 rintro k f_1 w2 ⟨s25_1, s6_1, s7_1, s0_1, s1_1, s2_1, s8_1, s23_1, s24_1, e_1, hk⟩
 have z_1 := e_1.size
 refine C.sr fun K10 => O.lssI s25_1 s24_1 (K10 (C.sq fun K11 => C.condD rfl (fun c26 => ?_) (fun c26 => ?_)))
 ·
  have hk2 : k < l.length := by omega
  have hbr := Ds.bst_range (a * b) (b : Int) l k
  have hat := Ds.at_eq hk2
  have hu : Rnd.Unit (Fl.canon (l[(k : Int).toNat]'(by omega)).fac) := Ds.fac_unit hbad (List.getElem_mem _)
  refine C.skip (K11 (C.sq fun K12 => C.bl fun K13 => C.sr fun K14 => O.mv (O.idx underlying32 sizeOf24 rfl s23_1 (hl.keep e_1) s25_1 (by omega) (fun a28 h28 => O.loadG (G := Ds.ruleF) isAgg24 sizeOf24 rfl h28 (O.alloc zeroValue24 (fun b11 w3 hb11 hz11 e3 => ?_))))))
  have z3 := e3.size
  have h11 := hz11.own
  have hl11 := h11.lt
  refine O.asg (O.storeA (vs := [str (l[(k : Int).toNat]'(by omega)).name, .int .i64 (l[(k : Int).toNat]'(by omega)).lo, fl (l[(k : Int).toNat]'(by omega)).fac]) sizeOf24 rfl rfl rfl (by simp [Value.oneCell', str, fl]) h11 (leB rfl) (fun w4 hs4 e4 z4 => K14 (C.sq fun K15 => C.sr fun K16 => O.fa underlying24 rfl sizeOf3 rfl (O.loadO isAgg3 rfl hs4 rfl (O.mv (O.gtrI rfl s1_1 (K16 (C.condD rfl (fun c33 => ?_) (fun c33 => ?_)))))))))
  ·
   obtain ⟨hb9, hl9⟩ := Ds.bst_skip (n := a * b) (q := (b : Int)) (l := l) (k := k) (by rw [hat]; exact c33)
   refine C.exit (K13 (K12 (C.region (O.ad s25_1 rfl (O.mv (O.nil (⟨k + 1, ⟨rfl, (Eq.trans s6_1 (congrArg (Value.int .i64) hb9.symm)), (Eq.trans s7_1 (congrArg (Value.int .i64) (by rw [hl9]))), s0_1, s1_1, s2_1, s8_1, s23_1, s24_1, (Ext.nr (Ext.trans e_1 e3) e4), ?_⟩, by first | omega | (simp only []; omega)⟩)))))))
   omega
  have hsk : ¬ (b : Int) < (Ds.at' l k).lo := by rw [hat]; exact c33
  refine C.skip (K15 (C.sr fun K17 => O.mv (O.mv (O.fa underlying24 rfl sizeOf22 rfl (O.loadO isAgg22 rfl hs4 rfl (O.call call40 (args3 s0_1 s1_1 rfl) (price_spec a b (l[(k : Int).toNat]'(by omega)).fac _ hc hq hu) ?_))))))
  rintro v_38 w5 ⟨rfl, e5⟩
  have z5 := e5.size
  refine O.asg (K17 (C.sq fun K18 => C.join (fun f w f' w' => Le w w' ∧ f' 0 = f 0 ∧ f' 1 = f 1 ∧ f' 2 = f 2 ∧ f' 6 = f 6 ∧ f' 7 = f 7 ∧ f' 8 = f 8 ∧ f' 10 = f 10 ∧ f' 12 = f 12 ∧ f' 23 = f 23 ∧ f' 24 = f 24 ∧ f' 25 = f 25 ∧ f' 58 = .bool (decide (Ds.bst (a * b) (b : Int) l k < 0) || Ds.better (a * b) (Ds.at' l k).fac (Ds.at' l (Ds.bst (a * b) (b : Int) l k)).fac)) ?_ ?_))
  ·
   refine C.draw (by kernel_rfl) fun w6 e6 => ?_
   have z6 := e6.size
   refine D.mv 0 rfl (Le.refl _) (D.t 1 rfl (Le.refl _) (fun _ _ _ hN => O.lssI s6_1 rfl (O.nil hN)) (D.mv 2 rfl (Le.refl _) (D.splitD (x := .tmp 41) rfl (fun c41 => ?_) (fun c41 => ?_))))
   ·
    refine D.tn 3 rfl rfl (Le.refl _) rfl (noB (isT rfl c41) rfl) (D.tn 4 rfl rfl (Le.refl _) rfl (noB (isT rfl c41) rfl) (D.tn 5 rfl rfl (Le.refl _) rfl (noB (isT rfl c41) rfl) (D.tn 6 rfl rfl (Le.refl _) rfl (noB (isT rfl c41) rfl) (D.tn 7 rfl rfl (Le.refl _) rfl (noB (isT rfl c41) rfl) (D.tn 8 rfl rfl (Le.refl _) rfl (noB (isT rfl c41) rfl) (D.tn 9 rfl rfl (Le.refl _) rfl (noB (isT rfl c41) rfl) (D.tn 10 rfl rfl (Le.refl _) rfl (noB (isT rfl c41) rfl) (D.tn 11 rfl rfl (Le.refl _) rfl (noB (isT rfl c41) rfl) (D.tn 12 rfl rfl (Le.refl _) rfl (noB (isT rfl c41) rfl) (D.tn 13 rfl rfl (Le.refl _) rfl (noB (isT rfl c41) rfl) ?_))))))))))
    refine D.tn 14 rfl rfl (Le.refl _) rfl (noB (isT rfl c41) rfl) (D.tn 15 rfl rfl (Le.refl _) rfl (noB (isT rfl c41) rfl) (D.tn 16 rfl rfl (Le.refl _) rfl (noB (isT rfl c41) rfl) (D.tn 17 rfl rfl (Le.refl _) rfl (noB (isT rfl c41) rfl) (D.tn 18 rfl rfl (Le.refl _) rfl (noB (isT rfl c41) rfl) (D.tk 19 rfl rfl rfl rfl (Le.refl _) pick_form (fun _ hw_ _ hN => O.pickT (isT rfl c41) (O.nil hN)) (D.dn ?_))))))
    exact ⟨e6, rfl, rfl, rfl, rfl, rfl, rfl, rfl, rfl, rfl, rfl, rfl, (Eq.trans rfl (congrArg Value.bool (by first | (rw [decide_eq_true c41]; rfl) | (rw [decide_eq_false c41, Bool.false_or]; exact hbo))))⟩
   have hlb : (Ds.bst (a * b) (b : Int) l k).toNat < l.length := by omega
   have hls : Ds.least (a * b) (b : Int) l k = Rnd.price (a * b) (Fl.canon (Ds.at' l (Ds.bst (a * b) (b : Int) l k)).fac) := if_neg c41
   have hbo : decide ((if Dt.icmp (Rnd.price (a * b) (Fl.canon (l[(k : Int).toNat]'(by omega)).fac) : Nat) (Ds.least (a * b) (b : Int) l k : Nat) ≠ 0 then Dt.icmp (Rnd.price (a * b) (Fl.canon (l[(k : Int).toNat]'(by omega)).fac) : Nat) (Ds.least (a * b) (b : Int) l k : Nat) else Fl.cmp (Fl.canon (l[(k : Int).toNat]'(by omega)).fac) (Fl.canon (Ds.at' l (Ds.bst (a * b) (b : Int) l k)).fac)) < 0) = Ds.better (a * b) (Ds.at' l k).fac (Ds.at' l (Ds.bst (a * b) (b : Int) l k)).fac := by
    rw [hls, hat]
    exact Ds.better_or hu (by rw [Ds.at_get hlb]; exact Ds.fac_unit hbad (List.getElem_mem _))
   refine D.ty 3 rfl rfl rfl rfl (isF rfl c41) (Le.refl _) ⟨pure _, rfl⟩ (fun _ hw_ _ hN => O.mv (O.nil hN)) (D.ty 4 rfl rfl rfl rfl (isF rfl c41) (Le.refl _) ⟨pure _, rfl⟩ (fun _ hw_ _ hN => O.mv (O.nil hN)) (D.ty 6 rfl rfl rfl rfl (isF rfl c41) (Le.refl _) ⟨_, rfl⟩ (fun _ hw_ _ hN => O.fa underlying24 rfl sizeOf22 rfl (O.nil hN)) (D.ty 7 rfl rfl rfl rfl (isF rfl c41) (Le.refl _) ⟨_, rfl⟩ (fun _ hw_ _ hN => O.loadO isAgg22 rfl (((hs4.keep e5).keep e6).keep hw_) rfl (O.nil hN)) (D.ty 9 rfl rfl rfl rfl (isF rfl c41) (Le.refl _) ⟨pure _, rfl⟩ (fun _ hw_ _ hN => O.mv (O.nil hN)) ?_))))
   refine D.ty 10 rfl rfl rfl rfl (isF rfl c41) (Le.refl _) ⟨pure _, rfl⟩ (fun _ hw_ _ hN => O.mv (O.nil hN)) ?_
   obtain ⟨a50, h50, hr50⟩ := Sl.at (i := Ds.bst (a * b) (b : Int) l k) (P := Tryz.prog) underlying32 sizeOf24 rfl (hl.keep (Ext.trans (Ext.trans (Ext.nr (Ext.trans e_1 e3) e4) e5) e6)) (by omega)
   refine D.ty 11 rfl rfl rfl rfl (isF rfl c41) (Le.refl _) ⟨_, rfl⟩ (fun _ hw_ _ hN => O.idxR s2_1 s6_1 hr50 (O.nil hN)) (D.ty 12 rfl rfl rfl rfl (isF rfl c41) (Le.refl _) ⟨_, rfl⟩ (fun _ hw_ _ hN => O.ft underlying24 rfl sizeOf22 rfl (O.nil hN)) (D.ty 13 rfl rfl rfl rfl (isF rfl c41) (Le.refl _) ⟨_, rfl⟩ (fun _ hw_ _ hN => O.loadAtF (G := Ds.ruleF) isAgg22 rfl rfl (h50.keep hw_) (O.nil hN)) (D.cast (v' := fl (Ds.at' l (Ds.bst (a * b) (b : Int) l k)).fac) (congrArg (fun r : Ds.Rule => fl r.fac) (Ds.at_get hlb).symm) (D.oneYes (i := 5) rfl rfl (isF rfl c41) (by kernel_rfl) (O.call call43 (args2 rfl s7_1) (icmp_spec _ _ _) ?_)))))
   rintro v_44 w7 ⟨rfl, hw_⟩
   replace hw_ := hw_.symm
   subst hw_
   refine O.nil ⟨(Le.refl _), D.oneYes (i := 8) rfl rfl (isF rfl c41) (by kernel_rfl) (O.call call35 (args1 rfl) (canon_spec _ _) ?_)⟩
   rintro v_47 w7 ⟨rfl, hw_⟩
   replace hw_ := hw_.symm
   subst hw_
   refine O.nil ⟨(Le.refl _), D.oneYes (i := 14) rfl rfl (isF rfl c41) (by kernel_rfl) (O.call call35 (args1 rfl) (canon_spec _ _) ?_)⟩
   rintro v_53 w7 ⟨rfl, hw_⟩
   replace hw_ := hw_.symm
   subst hw_
   refine O.nil ⟨(Le.refl _), D.oneYes (i := 15) rfl rfl (isF rfl c41) (by kernel_rfl) (O.call call23 (args2 rfl rfl) (cmp_spec _ _ _) ?_)⟩
   rintro v_54 w7 ⟨rfl, hw_⟩
   replace hw_ := hw_.symm
   subst hw_
   refine O.nil ⟨(Le.refl _), D.oneYes (i := 16) rfl rfl (isF rfl c41) (by kernel_rfl) (O.litn [.int .i64 (Dt.icmp (Rnd.price (a * b) (Fl.canon (l[(k : Int).toNat]'(by omega)).fac) : Nat) (Ds.least (a * b) (b : Int) l k : Nat)), .int .i64 (Fl.cmp (Fl.canon (l[(k : Int).toNat]'(by omega)).fac) (Fl.canon (Ds.at' l (Ds.bst (a * b) (b : Int) l k)).fac))] underlying43 ti3 ts3 tz3 rfl (by decide) (by decide) rfl (by simp [Value.oneCell']) (fun b55 w7 hb55 hz55 e7 => ?_))⟩
   have z7 := e7.size
   have h55 := hz55.own
   have hl55 := h55.lt
   refine O.nil ⟨e7, ?_⟩
   have h1055 : Sl Dt.intF.enc w7 (fun k => k = b55) (.slice (some ⟨b55, 0, none⟩) 2 2) [Dt.icmp (Rnd.price (a * b) (Fl.canon (l[(k : Int).toNat]'(by omega)).fac) : Nat) (Ds.least (a * b) (b : Int) l k : Nat), Fl.cmp (Fl.canon (l[(k : Int).toNat]'(by omega)).fac) (Fl.canon (Ds.at' l (Ds.bst (a * b) (b : Int) l k)).fac)] := Sl.of_own (G := Dt.intF) h55 rfl (Nat.le_refl _) (by unfold maxLen; omega) (by simp [Dt.intF])
   refine D.oneYes (i := 17) rfl rfl (isF rfl c41) (by kernel_rfl) (O.call call42 (args1 rfl) (cor_spec _ _ _ _ _ h1055) ?_)
   rintro v_56 w8 ⟨rfl, hw_⟩
   replace hw_ := hw_.symm
   subst hw_
   refine O.nil ⟨e7, D.ty 18 rfl rfl rfl rfl (isF rfl c41) e7 ⟨_, rfl⟩ (fun _ hw_ _ hN => O.lssI rfl rfl (O.nil hN)) (D.tk 19 rfl rfl rfl rfl e7 pick_form (fun _ hw_ _ hN => O.pickF (isF rfl c41) (O.nil hN)) (D.dn ?_))⟩
   exact ⟨(Ext.trans e6 e7), rfl, rfl, rfl, rfl, rfl, rfl, rfl, rfl, rfl, rfl, rfl, (Eq.trans rfl (congrArg Value.bool (by first | (rw [decide_eq_true c41]; rfl) | (rw [decide_eq_false c41, Bool.false_or]; exact hbo))))⟩
  rintro f_2 w8 ⟨e_2, s0_2, s1_2, s2_2, s6_2, s7_2, s8_2, s10_2, s12_2, s23_2, s24_2, s25_2, s58_2⟩
  have z_2 := e_2.size
  refine K18 (C.cond s58_2 (fun c58 => ?_) (fun c58 => ?_))
  ·
   obtain ⟨hb9, hl9⟩ := Ds.bst_new hsk c58
   replace hl9 := hl9.trans (show Rnd.price (a * b) (Fl.canon (Ds.at' l k).fac) = Rnd.price (a * b) (Fl.canon (l[(k : Int).toNat]'(by omega)).fac) by simp only [hat, Int.toNat_natCast])
   refine C.region (O.mv (O.mv (O.asg (O.asg (O.nil (K13 (K12 (C.region (O.ad (Eq.trans s25_2 s25_1) rfl (O.mv (O.nil (⟨k + 1, ⟨rfl, (Eq.trans (Eq.trans s10_2 s25_1) (congrArg (Value.int .i64) hb9.symm)), (Eq.trans s12_2 (congrArg (Value.int .i64) (by rw [hl9]))), (Eq.trans s0_2 s0_1), (Eq.trans s1_2 s1_1), (Eq.trans s2_2 s2_1), (Eq.trans s8_2 s8_1), (Eq.trans s23_2 s23_1), (Eq.trans s24_2 s24_1), (Ext.trans (Ext.trans (Ext.nr (Ext.trans e_1 e3) e4) e5) e_2), ?_⟩, by first | omega | (simp only []; omega)⟩))))))))))))
   omega
  obtain ⟨hb9, hl9⟩ := Ds.bst_keep hsk c58
  refine C.skip (K13 (K12 (C.region (O.ad (Eq.trans s25_2 s25_1) rfl (O.mv (O.nil (⟨k + 1, ⟨rfl, (Eq.trans (Eq.trans s6_2 s6_1) (congrArg (Value.int .i64) hb9.symm)), (Eq.trans (Eq.trans s7_2 s7_1) (congrArg (Value.int .i64) (by rw [hl9]))), (Eq.trans s0_2 s0_1), (Eq.trans s1_2 s1_1), (Eq.trans s2_2 s2_1), (Eq.trans s8_2 s8_1), (Eq.trans s23_2 s23_1), (Eq.trans s24_2 s24_1), (Ext.trans (Ext.trans (Ext.nr (Ext.trans e_1 e3) e4) e5) e_2), ?_⟩, by first | omega | (simp only []; omega)⟩)))))))
  omega
 obtain rfl : k = l.length := by omega
 refine C.exit (K9 (K7 (C.sr fun K19 => O.mv (O.mv (O.asg (O.asg (O.asg (K19 (C.ret (Outs.three rfl s6_1 s7_1 rfl ?_))))))))))
 first
 | exact ⟨tup3 hbR.symm hbP.symm he.symm, e_1⟩
 | exact ⟨tup3 (if_neg c18).symm (if_neg c18).symm rfl, e_1⟩
end Go.Proofs.YtbadfphdniliaaaGreatDoor
end
section
namespace Go.Proofs
open Go.Shelf
theorem Tryz.sortF : Go.Proofs.SlLaysF.n6 Tryz.prog Tryz.laysSlF6_f50_ren := Tryz.laysSlF6_f50
end Go.Proofs
end
section
namespace Go.Proofs.YtbadfphdniliaaaGreatDoor
open Go.Pn Go.RowKit Go.Proofs _root_.Go.Proofs.Tryz
attribute [local irreducible] O C D
theorem blen_spec (w : World) : Ret Tryz.prog 66 #[.int .u64 ((0#64).toNat : Int)] w (fun v w' => (∃ k : Int, v = .int .i64 k) ∧ w' = w) := by
 refine Ret.of (Tryz.bits_Len 0 w (by decide) (by decide)) ?_
 rintro e w' ⟨rfl, rfl⟩
 exact ⟨_, rfl, ⟨_, rfl⟩, rfl⟩
theorem ins0_spec (w : World) :
 Ret Tryz.prog 77 #[.slice none 0 0, .int .i64 (0), .int .i64 (0), .func (.func 23) #[] #[]] w (fun v w' => v = .tuple #[] ∧ w' = w) := by
 refine enT [.slice none 0 0, .int .i64 (0), .int .i64 (0), .func (.func 23) #[] #[]] 53 func77 rfl rfl (C.sr fun K1 => O.mv (O.ad rfl rfl (O.cast (v' := .int .i64 (1)) rfl (O.asg (K1 (C.bl fun K2 => C.loop0 (σ := Nat) (fun f0 w0 z f w => f 8 = .int .i64 (1) ∧ f 0 = f0 0 ∧ f 1 = f0 1 ∧ f 2 = f0 2 ∧ f 3 = f0 3 ∧ w = w0) (fun z => z) 0 ?_ ?_))))))
 ·
  exact ⟨rfl, rfl, rfl, rfl, rfl, rfl⟩
 rintro z f_1 wx ⟨s8_1, s0_1, s1_1, s2_1, s3_1, rfl⟩
 refine C.sq fun K3 => C.sr fun K4 => O.mv (O.mv (O.lssI s8_1 s2_1 (O.cast (v' := .bool false) rfl (K4 (C.condF rfl (C.exit (K2 (Outs.none rfl ?_))))))))
 exact ⟨rfl, rfl⟩
theorem pdq0_spec (lim : Int) (w : World) :
 Ret Tryz.prog 65 #[.slice none 0 0, .int .i64 (0), .int .i64 (0), .int .i64 (lim), .func (.func 23) #[] #[]] w (fun v w' => v = .tuple #[] ∧ w' = w) := by
 refine enT [.slice none 0 0, .int .i64 (0), .int .i64 (0), .int .i64 (lim), .func (.func 23) #[] #[]] 148 func65 rfl rfl (C.sr fun K1 => O.asg (K1 (C.sr fun K2 => O.asg (K2 (C.bl fun K3 => C.loop0 (σ := Nat) (fun f0 w0 z f w => f 1 = .int .i64 (0) ∧ f 2 = .int .i64 (0) ∧ f 10 = .bool (true) ∧ f 11 = .bool (true) ∧ f 0 = f0 0 ∧ f 4 = f0 4 ∧ w = w0) (fun z => z) 0 ?_ ?_)))))
 ·
  exact ⟨rfl, rfl, rfl, rfl, rfl, rfl, rfl⟩
 rintro z f_1 wx ⟨s1_1, s2_1, s10_1, s11_1, s0_1, s4_1, rfl⟩
 refine C.bl fun K4 => C.sr fun K5 => O.mv (O.mv (O.sb s2_1 s1_1 (O.cast (v' := .int .i64 (0)) rfl (O.asg (K5 (C.sq fun K6 => C.sr fun K7 => O.mv (O.leqI rfl rfl (O.cast (v' := .bool true) rfl (K7 (C.condT rfl (C.sr fun K8 => O.mv (O.mv (O.mv (O.mv (O.call call77 (args4 s0_1 s1_1 s2_1 s4_1) (ins0_spec _) ?_)))))))))))))))
 rintro v_30 w1 ⟨rfl, hw_⟩
 replace hw_ := hw_.symm
 subst hw_
 refine K8 (C.ret (Outs.none rfl ?_))
 exact ⟨rfl, rfl⟩
theorem sort0_spec (w : World) :
 Ret Tryz.prog 50 #[.slice none 0 0, .func (.func 23) #[] #[]] w (fun v w' => v = .tuple #[] ∧ w' = w) := by
 refine enT [.slice none 0 0, .func (.func 23) #[] #[]] 14 func50 rfl rfl (C.sr fun K1 => O.mv (O.lenL underlying37 rfl (O.cast (v' := .int .i64 0) rfl (O.asg (K1 (C.region (O.mv (O.mv (O.mv (O.convIU (m' := 64) underlying3 underlying88 rfl rfl rfl (O.cast (v' := .int .u64 ((0#64).toNat : Int)) rfl (O.call call66 (args1 rfl) (blen_spec _) ?_))))))))))))
 rintro v_11 w1 ⟨⟨kv11, rfl⟩, rfl⟩
 refine O.mv (O.call call65 (args5 rfl rfl rfl rfl rfl) (pdq0_spec _ _) ?_)
 rintro v_13 w1 ⟨rfl, hw_⟩
 replace hw_ := hw_.symm
 subst hw_
 refine O.nil (Outs.none rfl ?_)
 exact ⟨rfl, rfl⟩
theorem swoF : Go.Sort.SWO (ltOf Fl.cmp) where
 irrefl x := by unfold ltOf; exact decide_eq_false (by rw [Fl.cmp_self]; decide)
 trans x y z h1 h2 := by
  unfold ltOf at *
  simp only [decide_eq_true_eq] at *
  rw [Fl.cmp_lt_iff] at *
  rw [BitVec.lt_def] at *
  omega
 ntrans x y z h1 h2 := by
  unfold ltOf at *
  simp only [decide_eq_false_iff_not] at *
  rw [Fl.cmp_lt_iff] at *
  rw [BitVec.lt_def] at *
  omega
theorem sortF_spec (v : Value) (l : List (BitVec 64)) (B : Nat) (w : World) (h : OwnF flF 22 B w v l) (hn : l.length ≤ 1000000) :
 Ret Tryz.prog 50 #[v, .func (.func 23) #[] #[]] w (fun r w' => r = .tuple #[] ∧ OwnF flF 22 B w' v (Fl.sorted l) ∧ Ext (bk v) w w') := by
 rcases h.1.2 with ⟨rfl, h0⟩ | ⟨g, cap, cur, rfl, _⟩
 ·obtain rfl : l = [] := List.eq_nil_of_length_eq_zero h0
  refine (sort0_spec w).mono ?_
  rintro e w' ⟨rfl, rfl⟩
  exact ⟨rfl, h, Ext.refl _ _⟩
 ·obtain ⟨hH, hlt⟩ := h.holds (enc := fl) rfl (fun _ => rfl)
  have eg : ∀ args w, (callFunc 23 args).run Tryz.prog w = .ok (.enter 23 args) w := enters_of func23 (by kernel_rfl) rfl
  have hcmp : CmpReads Tryz.prog 23 #[] fl Fl.cmp g 0 l.toArray.size w := fun m os dk hs x y =>
   (cmp_spec x y _).calls.mono fun e w' ⟨v, he, hv, hw⟩ => ⟨by rw [he, hv], 0, hw⟩
  have hs : l.toArray.size < 4611686018427387904 := by simp; omega
  have hcon := Any.slices_SortFunc Tryz.sortF fl (fun _ => rfl) Fl.cmp swoF 23 #[] g 0 cap l.toArray w eg hcmp.lays hH hlt hs
  refine Ret.of hcon ?_
  rintro e w' ⟨rfl, d', m, os, hp, hso, rfl⟩
  obtain ⟨hd, _, hperm⟩ := hp
  have hd2 : d'.size = l.length := by simpa using hd
  obtain ⟨h1, h2⟩ := h.sorted (enc := fl) rfl (fun _ => rfl) hd2 m os
  have hq : d'.toList = Fl.sorted l := by
   refine Fl.sorted_of_asc ?_ ?_
   ·have e1 : (l.toArray.extract 0 l.toArray.size).toList = l := by simp
    have e2 : (d'.extract 0 l.toArray.size).toList = d'.toList := by rw [← hd]; simp
    rw [e1, e2] at hperm
    exact hperm
   ·unfold Fl.Asc
    rw [List.pairwise_iff_getElem]
    intro i j hi hj hij
    have hi2 : i < d'.size := by simpa using hi
    have hj2 : j < d'.size := by simpa using hj
    have h3 := hso i j (Nat.zero_le _) hij (by simpa [hd2] using hj)
    unfold ltOf at h3
    simp only [decide_eq_false_iff_not] at h3
    rw [Fl.cmp_lt_iff, getElem!_pos d' i hi2, getElem!_pos d' j hj2, BitVec.lt_def] at h3
    rw [BitVec.le_def]
    simp only [Array.getElem_toList]
    omega
  rw [hq] at h1
  exact ⟨_, rfl, rfl, h1, h2.mono fun k _ hk => hk⟩
theorem clone_spec (v0 : Value) (l : List (BitVec 64)) (F : Nat → Prop) (w : World) (hl : Sl flE w F v0 l) (hn : l.length ≤ 1000000) :
 Ret Tryz.prog 49 #[v0] w (fun v w' => Le w w' ∧ OwnF flF 22 w.heap.size w' v l) := by
 have hle := hl.le
 obtain ⟨ie22, ti22, ts22, tb22, tz22⟩ := inf22
 refine enT [v0] 8 func49 rfl rfl (C.sr fun K1 => O.asg (K1 (C.sq fun K2 => C.sr fun K3 => O.mv (O.eqlNilS underlying37 rfl hl (K3 (C.cond rfl (fun c4 => ?_) (fun c4 => ?_)))))))
 ·
  refine C.sr fun K4 => O.asg (K4 (C.ret (Outs.one rfl rfl ?_)))
  first
  | (obtain rfl := isNilS_nil hl c4
     exact ⟨(Le.refl _), OwnF.nil _ _ _ _⟩)
  | exact ⟨(Le.refl _), {app:7}⟩
 refine C.skip (K2 (C.sr fun K5 => O.lit0 underlying37 ti22 (fun b5 w1 hb5 hz5 e1 => ?_)))
 have z1 := e1.size
 have hl5 := hz5.own.lt
 have h1005 : OwnF flF 22 w.heap.size w1 _ [] := OwnF.lit0 hz5 hb5
 refine O.mv (O.appF (G := flF) underlying37 ti22 tz22 ts22 rfl rfl rfl h1005 (hl.keep e1) (by rw [tb22]; simp; omega) (by unfold maxLen; simp; omega) (by omega) (fun v7 w2 h7 e2 => ?_))
 have z2 := e2.size
 have h7s := h7.sl
 refine O.asg (K5 (C.ret (Outs.one rfl rfl ?_)))
 first
 | (obtain rfl := isNilS_nil hl c4
    exact ⟨(Ext.new e1 e2 (by intro i hi h; have := h1005.bk_ge i h; omega)), OwnF.nil _ _ _ _⟩)
 | exact ⟨(Ext.new e1 e2 (by intro i hi h; have := h1005.bk_ge i h; omega)), h7⟩
theorem fsorted_spec (v0 : Value) (l : List (BitVec 64)) (F : Nat → Prop) (w : World) (hl : Sl flE w F v0 l) (hn : l.length ≤ 1000000) :
 Ret Tryz.prog 36 #[v0] w (fun v w' => Le w w' ∧ OwnF flF 22 w.heap.size w' v (Fl.sorted l)) := by
 refine enT [v0] 9 func36 rfl rfl (C.sr fun K1 => O.asg (K1 (C.sr fun K2 => O.mv (O.call call49 (args1 rfl) (clone_spec _ _ _ _ hl hn) ?_))))
 rintro v_5 w1 ⟨e1, h5⟩
 have z1 := e1.size
 refine O.asg (K2 (C.sr fun K3 => O.mv (O.call call50 (args2 rfl rfl) (sortF_spec _ _ _ _ h5 hn) ?_)))
 rintro v_7 w2 ⟨rfl, h7, e2⟩
 have z2 := e2.size
 refine K3 (C.sr fun K4 => O.mv (O.asg (K4 (C.ret (Outs.one rfl rfl ?_)))))
 exact ⟨(Ext.new e1 e2 (by intro i hi h; have := h5.bk_ge i h; omega)), h7⟩
set_option maxHeartbeats 1000000 in
theorem fsum_spec (v0 : Value) (l : List (BitVec 64)) (F : Nat → Prop) (w : World) (hl : Sl flE w F v0 l) (hn : l.length ≤ 1000000) :
 Ret Tryz.prog 22 #[v0] w (fun v w' => Le w w' ∧ v = fl (Fl.tot l)) := by
 have hle := hl.le
 obtain ⟨ie22, ti22, ts22, tb22, tz22⟩ := inf22
 refine enT [v0] 38 func22 rfl rfl (C.sr fun K1 => O.asg (K1 (C.sr fun K2 => O.mv (O.len underlying37 rfl hl (O.mkF (G := flF) (zx := 0#64) underlying37 ti22 tz22 ts22 rfl rfl rfl (by rw [tb22]; omega) (by unfold maxLen; omega) (Nat.le_refl _) (fun b11 w1 hb11 hz11 ho11 e1 => ?_))))))
 have z1 := e1.size
 have ho11s := ho11.sl
 have h1011 : Own w1 b11 22 (Fl.part 0 l) := by rw [Fl.part_zero]; exact hz11.own
 refine O.asg (K2 (C.sq fun K3 => C.sr fun K4 => O.mv (O.len underlying37 rfl (hl.keep e1) (O.mv (K4 (C.bl fun K5 => C.loop0 (σ := Nat) (fun f0 w0 k f w => f 14 = .int .i64 (k) ∧ f 2 = f0 2 ∧ f 3 = f0 3 ∧ f 12 = f0 12 ∧ f 13 = f0 13 ∧ Ext (fun k => k = b11) w0 w ∧ Own w b11 22 (Fl.part k l) ∧ k ≤ l.length) (fun k => l.length - k) 0 ?_ ?_))))))
 ·
  refine ⟨rfl, rfl, rfl, rfl, rfl, Ext.refl _ _, h1011, ?_⟩
  exact Nat.zero_le _
 rintro k f_1 w2 ⟨s14_1, s2_1, s3_1, s12_1, s13_1, e_1, r0_1, hk⟩
 have z_1 := e_1.size
 refine C.sr fun K6 => O.lssI s14_1 s13_1 (K6 (C.sq fun K7 => C.condD rfl (fun c15 => ?_) (fun c15 => ?_)))
 ·
  have hk2 : k < l.length := by omega
  refine C.skip (K7 (C.sq fun K8 => C.bl fun K9 => C.sr fun K10 => O.mv (O.idx underlying37 sizeOf22 rfl s12_1 (hl.keep (Ext.nr e1 e_1)) s14_1 (by omega) (fun a17 h17 => O.loadF isAgg22 rfl h17 (O.asg (O.asg (K10 (C.region (O.mv (O.mv (O.mv (O.call call35 (args1 rfl) (canon_spec _ _) ?_))))))))))))
  rintro v_22 w3 ⟨rfl, hw_⟩
  replace hw_ := hw_.symm
  subst hw_
  refine O.idxO underlying37 sizeOf22 s3_1 s14_1 (by omega) (O.store sizeOf22 rfl rfl rfl r0_1 (by rw [Fl.part_length (by omega)]; simp; omega) (fun w3 hs3 e3 z3 => ?_))
  (try simp only [Int.toNat_natCast] at hs3); (try simp only [Nat.zero_add] at hs3); (try simp only [Nat.mul_one] at hs3)
  replace hs3 : Own w3 b11 22 (Fl.part (k + 1) l) := by rw [← Fl.part_set hk2]; exact hs3
  refine O.nil (K9 (K8 (C.region (O.ad s14_1 rfl (O.mv (O.nil (⟨k + 1, ⟨rfl, s2_1, s3_1, s12_1, s13_1, (Ext.trans e_1 (e3)), hs3, ?_⟩, by first | omega | (simp only []; omega)⟩)))))))
  omega
 refine C.exit (K5 (K3 (C.sr fun K11 => O.asg (K11 (C.sq fun K12 => C.sr fun K13 => O.mv ?_)))))
 obtain rfl : k = l.length := by omega
 have h1025 : Sl flE w2 (fun k => k = b11) (.slice (some ⟨b11, 0, none⟩) l.length l.length) (l.map Fl.canon) := by
  have hq := Sl.of_own (G := flF) (xs := l.map Fl.canon) (cap := l.length) r0_1 (by rw [Fl.part_end, ← flF.length, List.take_length]) (by simp) (by have := hl.1; exact this) (by rw [Fl.part_length (Nat.le_refl _)]; show l.length * 1 ≤ _; omega)
  rw [List.length_map] at hq
  exact hq
 refine O.call call36 (args1 s3_1) (fsorted_spec _ _ _ _ h1025 (by rw [List.length_map]; exact hn)) ?_
 rintro v_26 w4 ⟨e4, h26⟩
 have z4 := e4.size
 have h26s := h26.sl
 replace h26 := h26.low (B' := w.heap.size) (by omega)
 refine O.len underlying37 rfl h26s (O.mv (K13 (C.bl fun K14 => C.loop0 (σ := Nat × BitVec 64) (fun f0 w0 ⟨j, s⟩ f wz => f 6 = fl (s) ∧ f 28 = .int .i64 (j) ∧ f 2 = f0 2 ∧ f 26 = f0 26 ∧ f 27 = f0 27 ∧ Le w wz ∧ OwnF flF 22 w.heap.size wz v_26 (Fl.sorted (l.map Fl.canon)) ∧ j ≤ (Fl.sorted (l.map Fl.canon)).length ∧ Fl.Sum ((Fl.sorted (l.map Fl.canon)).take j) s) (fun ⟨j, s⟩ => (Fl.sorted (l.map Fl.canon)).length - j) (0, 0#64) ?_ ?_)))
 ·
  refine ⟨rfl, rfl, rfl, rfl, rfl, (Ext.trans (Ext.nr e1 e_1) e4), h26, ?_⟩
  exact ⟨Nat.zero_le _, Fl.Sum.nil⟩
 rintro ⟨j, s⟩ f_2 w5 ⟨s6_2, s28_2, s2_2, s26_2, s27_2, e_2, r0_2, ⟨hj, hS⟩⟩
 have z_2 := e_2.size
 have r0_2s := r0_2.sl
 refine C.sr fun K15 => O.lssI s28_2 s27_2 (K15 (C.sq fun K16 => C.condD rfl (fun c29 => ?_) (fun c29 => ?_)))
 ·
  refine C.skip (K16 (C.sq fun K17 => C.bl fun K18 => C.sr fun K19 => O.idx underlying37 sizeOf22 rfl s26_2 r0_2s s28_2 (by omega) (fun a30 h30 => O.loadF isAgg22 rfl h30 (O.asg (K19 (C.region (O.mv (O.mv (O.addF s6_2 rfl (fun r34 w6 e6 hf34 => ?_))))))))))
  have z6 := e6.size
  refine O.asg (O.nil (K18 (K17 (C.region (O.addI s28_2 rfl (by have hq := Fl.sorted_length (l.map Fl.canon); rw [List.length_map] at hq; unfold InI; omega) (O.mv (O.nil (⟨(j + 1, _), ⟨rfl, rfl, s2_2, s26_2, s27_2, (Ext.trans e_2 e6), (r0_2.keep e6), ?_⟩, by first | omega | (simp only []; omega)⟩))))))))
  have hjl : j < (Fl.sorted (l.map Fl.canon)).length := by omega
  refine ⟨by omega, ?_⟩
  rw [List.take_succ_eq_append_getElem hjl]
  exact Fl.Sum.snoc hS hf34
 refine C.exit (K14 (K12 (C.sr fun K20 => O.mv (O.call call35 (args1 s6_2) (canon_spec _ _) ?_))))
 rintro v_37 w7 ⟨rfl, hw_⟩
 replace hw_ := hw_.symm
 subst hw_
 refine O.asg (K20 (C.ret (Outs.one rfl rfl ?_)))
 obtain rfl : j = (Fl.sorted (l.map Fl.canon)).length := by omega
 refine ⟨e_2, congrArg fl ?_⟩
 rw [List.take_length] at hS
 exact Fl.tot_eq hS
set_option maxHeartbeats 4000000 in
theorem dtog_spec (c q : Int) (v2 : Value) (l : List Ds.Rule) (F : Nat → Prop) (w : World) (hl : Sl Ds.ruleF.enc w F v2 l) (mx : Mx w) :
 Ret Tryz.prog 26 #[.int .i64 (c), .int .i64 (q), v2] w (fun v w' => v = .tuple #[.int .i64 (Ds.togP c q l), fl (Ds.togF c q l), .int .i64 (Ds.errOf c q l)] ∧ Le w w') := by
 have hle := hl.le
 obtain ⟨ie22, ti22, ts22, tb22, tz22⟩ := inf22
 refine enT [.int .i64 (c), .int .i64 (q), v2] 55 func26 rfl rfl (C.sr fun K1 => O.asg (O.asg (O.asg (K1 (C.sq fun K2 => C.sr fun K3 => O.mv (O.mv (O.mv (O.call call41 (args3 rfl rfl rfl) (check_spec c q v2 l F _ hl mx) ?_))))))))
 rintro v_18 w1 ⟨rfl, e1⟩
 have z1 := e1.size
 refine O.asg (K3 (C.sr fun K4 => O.mv (O.neqI rfl rfl (K4 (C.condD rfl (fun c20 => ?_) (fun c20 => ?_))))))
 ·
  refine C.sr fun K5 => O.mv (O.asg (O.asg (O.asg (K5 (C.ret (Outs.three rfl rfl rfl rfl ?_))))))
  first
  | exact ⟨tupf htP.symm htF.symm he.symm, e1⟩
  | exact ⟨tupf (b := 0#64) (if_neg c20).symm (if_neg c20).symm rfl, e1⟩
 have he : Ds.errOf c q l = 0 := Decidable.of_not_not c20
 obtain ⟨hlen, hok, hbad⟩ := Ds.err_ok he
 have hbR : Ds.bestR c q l = Ds.bst (c.toNat * q.toNat) q l l.length := if_pos he
 have hbP : Ds.bestP c q l = (Ds.least (c.toNat * q.toNat) q l l.length : Nat) := if_pos he
 have htP : Ds.togP c q l = (Rnd.price (c.toNat * q.toNat) (Ds.whole q l) : Nat) := if_pos he
 have htF : Ds.togF c q l = Ds.whole q l := if_pos he
 obtain ⟨a, b, hca, hqb, hc, hq, hab⟩ := Ds.prod_lt hok
 clear hok
 subst hca hqb
 rw [Int.toNat_natCast, Int.toNat_natCast] at hbR hbP htP
 have hwu := Ds.whole_unit (q := (b : Int)) hbad
 have hfu := Ds.sorted_unit (Ds.facs_unit (q := (b : Int)) hbad)
 have hfl := Ds.facs_len (b : Int) l
 have hsl := Fl.sorted_length (Ds.facs (b : Int) l)
 refine C.skip (K2 (C.sr fun K6 => O.asg (K6 (C.sq fun K7 => C.sr fun K8 => O.mv (O.len underlying32 rfl (hl.keep e1) (O.mv (K8 (C.bl fun K9 => C.loop0 (σ := Nat × Value) (fun f0 w0 ⟨k, o⟩ f wz => f 24 = .int .i64 ((k : Int)) ∧ f 10 = o ∧ f 0 = f0 0 ∧ f 1 = f0 1 ∧ f 6 = f0 6 ∧ f 7 = f0 7 ∧ f 8 = f0 8 ∧ f 22 = f0 22 ∧ f 23 = f0 23 ∧ Le w wz ∧ OwnF flF 22 w.heap.size wz o (Ds.facs (b : Int) (l.take k)) ∧ k ≤ l.length) (fun ⟨k, o⟩ => l.length - k) (0, .slice none 0 0) ?_ ?_))))))))
 ·
  refine ⟨rfl, rfl, rfl, rfl, rfl, rfl, rfl, rfl, rfl, e1, (OwnF.nil _ _ _ _), ?_⟩
  exact Nat.zero_le _
 rintro ⟨k, o⟩ f_1 w2 ⟨s24_1, s10_1, s0_1, s1_1, s6_1, s7_1, s8_1, s22_1, s23_1, e_1, r0_1, hk⟩
 have z_1 := e_1.size
 have r0_1s := r0_1.sl
 refine C.sr fun K10 => O.lssI s24_1 s23_1 (K10 (C.sq fun K11 => C.condD rfl (fun c25 => ?_) (fun c25 => ?_)))
 ·
  have hk2 : k < l.length := by omega
  have hfk := Ds.facs_len (b : Int) (l.take k)
  rw [List.length_take] at hfk
  have hft := Ds.facs_take (q := (b : Int)) hk2
  refine C.skip (K11 (C.sq fun K12 => C.bl fun K13 => C.sr fun K14 => O.idx underlying32 sizeOf24 rfl s22_1 (hl.keep e_1) s24_1 (by omega) (fun a26 h26 => O.loadG (G := Ds.ruleF) isAgg24 sizeOf24 rfl h26 (O.alloc zeroValue24 (fun b12 w3 hb12 hz12 e3 => ?_)))))
  have z3 := e3.size
  have h12 := hz12.own
  have hl12 := h12.lt
  refine O.storeA (vs := [str (l[(k : Int).toNat]'(by omega)).name, .int .i64 (l[(k : Int).toNat]'(by omega)).lo, fl (l[(k : Int).toNat]'(by omega)).fac]) sizeOf24 rfl rfl rfl (by simp [Value.oneCell', str, fl]) h12 (leB rfl) (fun w4 hs4 e4 z4 => K14 (C.sr fun K15 => O.fa underlying24 rfl sizeOf3 rfl (O.loadO isAgg3 rfl hs4 rfl (O.mv (O.leqI rfl s1_1 (K15 (C.condD rfl (fun c31 => ?_) (fun c31 => ?_))))))))
  ·
   rw [if_pos (show l[k].lo ≤ (b : Int) from c31)] at hft
   refine C.region (O.mv (O.fa underlying24 rfl sizeOf22 rfl (O.loadO isAgg22 rfl hs4 rfl (O.call call35 (args1 rfl) (canon_spec _ _) ?_))))
   rintro v_35 w5 ⟨rfl, hw_⟩
   replace hw_ := hw_.symm
   subst hw_
   refine O.lit1 underlying37 ti22 ts22 tz22 rfl rfl (fun b36 w5 hb36 hz36 e5 => ?_)
   have z5 := e5.size
   have h36 := hz36.own
   have hl36 := h36.lt
   have h1036 : Sl flF.enc w5 (fun k => k = b36) _ [Fl.canon (l[(k : Int).toNat]'(by omega)).fac] := Sl.one h36 rfl rfl
   have t0 := (r0_1.keep e3).keepM e4 (fun k hk h => by have := r0_1.bk_ge k hk; (try dsimp only at h); omega)
   refine O.appF (G := flF) underlying37 ti22 tz22 ts22 rfl s10_1 rfl (t0.keep e5) h1036 (by rw [tb22]; simp; omega) (by unfold maxLen; simp; omega) (by omega) (fun v37 w6 h37 e6 => ?_)
   have z6 := e6.size
   have h37s := h37.sl
   refine O.asg (O.nil (K13 (K12 (C.region (O.ad s24_1 rfl (O.mv (O.nil (⟨(k + 1, _), ⟨rfl, rfl, s0_1, s1_1, s6_1, s7_1, s8_1, s22_1, s23_1, (Ext.new (Ext.trans (Ext.nr (Ext.trans e_1 e3) e4) e5) e6 (by intro i hi h; have := (t0.keep e5).bk_ge i h; omega)), (by rw [hft]; exact h37), ?_⟩, by first | omega | (simp only []; omega)⟩))))))))
   omega
  rw [if_neg (show ¬ l[k].lo ≤ (b : Int) from c31)] at hft
  refine C.skip (K13 (K12 (C.region (O.ad s24_1 rfl (O.mv (O.nil (⟨(k + 1, _), ⟨rfl, s10_1, s0_1, s1_1, s6_1, s7_1, s8_1, s22_1, s23_1, (Ext.nr (Ext.trans e_1 e3) e4), (by rw [hft]; exact ((r0_1.keep e3).keepM e4 (fun k hk h => by have := r0_1.bk_ge k hk; (try dsimp only at h); omega))), ?_⟩, by first | omega | (simp only []; omega)⟩)))))))
  omega
 obtain rfl : k = l.length := by omega
 have h10x := r0_1
 rw [List.take_length] at h10x
 refine C.exit (K9 (K7 (C.sr fun K16 => O.asg (K16 (C.sq fun K17 => C.sr fun K18 => O.mv ?_)))))
 have h10s := (h10x).sl
 refine O.call call36 (args1 s10_1) (fsorted_spec _ (Ds.facs (b : Int) l) _ _ h10s (by omega)) ?_
 rintro v_40 w7 ⟨e7, h40⟩
 have z7 := e7.size
 have h40s := h40.sl
 replace h40 := h40.low (B' := w.heap.size) (by omega)
 refine O.len underlying37 rfl h40s (O.mv (K18 (C.bl fun K19 => C.loop0 (σ := Nat) (fun f0 w0 j f wz => f 42 = .int .i64 ((j : Int)) ∧ f 7 = fl (Ds.prod ((Fl.sorted (Ds.facs (b : Int) l)).take j)) ∧ f 0 = f0 0 ∧ f 1 = f0 1 ∧ f 6 = f0 6 ∧ f 8 = f0 8 ∧ f 40 = f0 40 ∧ f 41 = f0 41 ∧ Le w wz ∧ OwnF flF 22 w.heap.size wz v_40 (Fl.sorted (Ds.facs (b : Int) l)) ∧ j ≤ (Fl.sorted (Ds.facs (b : Int) l)).length) (fun j => (Fl.sorted (Ds.facs (b : Int) l)).length - j) 0 ?_ ?_)))
 ·
  refine ⟨rfl, (Eq.trans rfl rfl), rfl, rfl, rfl, rfl, rfl, rfl, (Ext.trans e_1 e7), h40, ?_⟩
  exact Nat.zero_le _
 rintro j f_2 w8 ⟨s42_2, s7_2, s0_2, s1_2, s6_2, s8_2, s40_2, s41_2, e_2, r0_2, hj⟩
 have z_2 := e_2.size
 have r0_2s := r0_2.sl
 refine C.sr fun K20 => O.lssI s42_2 s41_2 (K20 (C.sq fun K21 => C.condD rfl (fun c43 => ?_) (fun c43 => ?_)))
 ·
  have hj2 : j < (Fl.sorted (Ds.facs (b : Int) l)).length := by omega
  refine C.skip (K21 (C.sq fun K22 => C.bl fun K23 => C.sr fun K24 => O.idx underlying37 sizeOf22 rfl s40_2 r0_2s s42_2 (by omega) (fun a44 h44 => O.loadF isAgg22 rfl h44 (O.asg (K24 (C.region (O.mv (O.mv (O.mulF s7_2 rfl (fun r48 w9 e9 hf48 => ?_))))))))))
  have z9 := e9.size
  obtain rfl := Rnd.mul_pos (Ds.prod_unit (fun x hx => hfu x (List.mem_of_mem_take hx))).pos (hfu _ (List.getElem_mem _)).pos hf48
  refine O.asg (O.nil (K23 (K22 (C.region (O.ad s42_2 rfl (O.mv (O.nil (⟨j + 1, ⟨rfl, (Eq.trans rfl (congrArg fl (Ds.prod_take hj2).symm)), s0_2, s1_2, s6_2, s8_2, s40_2, s41_2, (Ext.trans e_2 e9), (r0_2.keep e9), ?_⟩, by first | omega | (simp only []; omega)⟩))))))))
  omega
 obtain rfl : j = (Fl.sorted (Ds.facs (b : Int) l)).length := by omega
 have hpw : Ds.prod (List.take (Fl.sorted (Ds.facs (b : Int) l)).length (Fl.sorted (Ds.facs (b : Int) l))) = (Ds.whole (b : Int) l) := by rw [List.take_length]; rfl
 rw [hpw] at s7_2
 refine C.exit (K19 (K17 (C.sr fun K25 => O.mv (O.mv (O.mv (O.call call40 (args3 (Eq.trans s0_2 s0_1) (Eq.trans s1_2 s1_1) s7_2) (price_spec a b (Ds.whole (b : Int) l) _ hc hq (by rw [Ds.canon_unit hwu]; exact hwu)) ?_))))))
 rintro v_53 w10 ⟨rfl, e10⟩
 have z10 := e10.size
 refine O.cast (v' := .int .i64 (Rnd.price (a * b) (Ds.whole (b : Int) l) : Nat)) (congrArg (fun x => Value.int .i64 (Rnd.price (a * b) x : Nat)) (Ds.canon_unit hwu)) (O.mv (O.asg (O.asg (O.asg (K25 (C.ret (Outs.three rfl rfl s7_2 rfl ?_)))))))
 first
 | exact ⟨tupf htP.symm htF.symm he.symm, (Ext.trans e_2 e10)⟩
 | exact ⟨tupf (b := 0#64) (if_neg c20).symm (if_neg c20).symm rfl, (Ext.trans e_2 e10)⟩
theorem prices_spec (c q : Int) (f : BitVec 64) (n e : Int) (w : World) (h1 : Ds.priceE c q f = n) (h2 : Ds.priceN c q f = e) :
 Ret Tryz.prog 12 #[.int .i64 (c), .int .i64 (q), fl (f), .int .i64 (n), .int .i64 (e)] w (fun v w' => v = .bool true ∧ Le w w') := by
 refine enT [.int .i64 (c), .int .i64 (q), fl (f), .int .i64 (n), .int .i64 (e)] 28 func12 rfl rfl (C.sr fun K1 => O.asg (K1 (C.sr fun K2 => O.mv (O.mv (O.mv (O.call call24 (args3 rfl rfl rfl) (dprice_spec c q f _) ?_))))))
 rintro v_17 w1 ⟨rfl, e1⟩
 have z1 := e1.size
 refine O.mv (O.extract rfl rfl (O.extract rfl rfl (O.asg (O.asg (K2 (C.sr fun K3 => O.mv (O.mv (O.eqlI rfl rfl (O.cast (v' := .bool true) (congrArg Value.bool (by exact decide_eq_true h1)) (O.mv (O.yes rfl rfl (O.mv (O.yes rfl rfl (O.mv (O.yes rfl rfl (O.eqlI rfl rfl (O.cast (v' := .bool true) (congrArg Value.bool (by exact decide_eq_true h2)) (O.pickT rfl (O.asg (K3 (C.ret (Outs.one rfl rfl ?_))))))))))))))))))))))
 exact ⟨rfl, e1⟩
theorem bests_spec (c q : Int) (v2 : Value) (l : List Ds.Rule) (F : Nat → Prop) (r n e : Int) (w : World) (hl : Sl Ds.ruleF.enc w F v2 l) (mx : Mx w) (h1 : Ds.bestR c q l = r) (h2 : Ds.bestP c q l = n) (h3 : Ds.errOf c q l = e) :
 Ret Tryz.prog 16 #[.int .i64 (c), .int .i64 (q), v2, .int .i64 (r), .int .i64 (n), .int .i64 (e)] w (fun v w' => v = .bool true ∧ Le w w') := by
 refine enT [.int .i64 (c), .int .i64 (q), v2, .int .i64 (r), .int .i64 (n), .int .i64 (e)] 37 func16 rfl rfl (C.sr fun K1 => O.asg (K1 (C.sr fun K2 => O.mv (O.mv (O.mv (O.call call27 (args3 rfl rfl rfl) (dbest_spec c q v2 l F _ hl mx) ?_))))))
 rintro v_20 w1 ⟨rfl, e1⟩
 have z1 := e1.size
 refine O.mv (O.extract rfl rfl (O.extract rfl rfl (O.extract rfl rfl (O.asg (O.asg (O.asg (K2 (C.sr fun K3 => O.mv (O.mv (O.eqlI rfl rfl (O.cast (v' := .bool true) (congrArg Value.bool (by exact decide_eq_true h1)) (O.mv (O.yes rfl rfl (O.mv (O.yes rfl rfl (O.mv (O.yes rfl rfl (O.eqlI rfl rfl (O.cast (v' := .bool true) (congrArg Value.bool (by exact decide_eq_true h2)) (O.pickT rfl (O.mv (O.yes rfl rfl (O.mv (O.yes rfl rfl (O.mv (O.yes rfl rfl (O.eqlI rfl rfl (O.cast (v' := .bool true) (congrArg Value.bool (by exact decide_eq_true h3)) (O.pickT rfl (O.asg (K3 (C.ret (Outs.one rfl rfl ?_)))))))))))))))))))))))))))))))))
 exact ⟨rfl, e1⟩
theorem together_spec (c q : Int) (v2 : Value) (l : List Ds.Rule) (F : Nat → Prop) (n : Int) (f : BitVec 64) (e : Int) (w : World) (hl : Sl Ds.ruleF.enc w F v2 l) (mx : Mx w) (h1 : Ds.togP c q l = n) (h2 : Ds.togF c q l = f) (h3 : Ds.errOf c q l = e) (h4 : Rnd.Unit f) :
 Ret Tryz.prog 17 #[.int .i64 (c), .int .i64 (q), v2, .int .i64 (n), fl (f), .int .i64 (e)] w (fun v w' => v = .bool true ∧ Le w w') := by
 refine enT [.int .i64 (c), .int .i64 (q), v2, .int .i64 (n), fl (f), .int .i64 (e)] 37 func17 rfl rfl (C.sr fun K1 => O.asg (K1 (C.sr fun K2 => O.mv (O.mv (O.mv (O.call call26 (args3 rfl rfl rfl) (dtog_spec c q v2 l F _ hl mx) ?_))))))
 rintro v_20 w1 ⟨rfl, e1⟩
 have z1 := e1.size
 refine O.mv (O.extract rfl rfl (O.extract rfl rfl (O.extract rfl rfl (O.asg (O.asg (O.asg (K2 (C.sr fun K3 => O.mv (O.mv (O.eqlI rfl rfl (O.cast (v' := .bool true) (congrArg Value.bool (by exact decide_eq_true h1)) (O.mv (O.yes rfl rfl (O.mv (O.yes rfl rfl (O.mv (O.yes rfl rfl (O.eqlF rfl rfl (O.cast (v' := .bool true) (congrArg Value.bool (by rw [h2]; exact decide_eq_true ((Rnd.feq_unit h4 h4).2 rfl))) (O.pickT rfl (O.mv (O.yes rfl rfl (O.mv (O.yes rfl rfl (O.mv (O.yes rfl rfl (O.eqlI rfl rfl (O.cast (v' := .bool true) (congrArg Value.bool (by exact decide_eq_true h3)) (O.pickT rfl (O.asg (K3 (C.ret (Outs.one rfl rfl ?_)))))))))))))))))))))))))))))))))
 exact ⟨rfl, e1⟩
theorem mnan_spec (w : World) :
 Ret Tryz.prog 44 #[] w (fun v w' => v = fl 9221120237041090561#64 ∧ w' = w) := by
 refine enT [] 2 func44 rfl rfl (C.sr fun K1 => O.asg (K1 (C.sr fun K2 => O.ext ext28 (args1 rfl) (run_fromBits (9221120237041090561#64)) (O.asg (K2 (C.ret (Outs.one rfl rfl ?_)))))))
 exact ⟨rfl, rfl⟩
theorem dmean_spec (v0 : Value) (l : List (BitVec 64)) (F : Nat → Prop) (w : World) (hl : Sl flE w F v0 l) :
 Ret Tryz.prog 29 #[v0] w (fun v w' => v = .tuple #[fl (Ds.meanV l), .int .i64 (Ds.meanN l)] ∧ Le w w') := by
 have hle := hl.le
 refine enT [v0] 21 func29 rfl rfl (C.sr fun K1 => O.asg (O.asg (K1 (C.sq fun K2 => C.bl fun K3 => C.sr fun K4 => O.mv (O.len underlying37 rfl hl (O.gtrI rfl rfl (O.asg (K4 (C.condD rfl (fun c4 => ?_) (fun c4 => ?_))))))))))
 ·
  refine C.sr fun K5 => O.asg (O.asg (K5 (C.ret (Outs.two rfl rfl rfl ?_))))
  first
  | exact ⟨Ds.mean_long (by omega), (Le.refl _)⟩
  | exact ⟨Ds.mean_none (by omega), (Le.refl _)⟩
  | exact ⟨Ds.mean_some (by omega) (by omega) hdv, (Le.refl _)⟩
 refine C.sr fun K6 => O.mv (O.len underlying37 rfl hl (O.eqlI rfl rfl (O.asg (K6 (C.condD rfl (fun c8 => ?_) (fun c8 => ?_))))))
 ·
  refine C.sr fun K7 => O.call call44 (argsN) (mnan_spec _) ?_
  rintro v_12 w1 ⟨rfl, hw_⟩
  replace hw_ := hw_.symm
  subst hw_
  refine O.call call35 (args1 rfl) (canon_spec _ _) ?_
  rintro v_13 w1 ⟨rfl, hw_⟩
  replace hw_ := hw_.symm
  subst hw_
  refine O.asg (O.asg (K7 (C.ret (Outs.two rfl rfl rfl ?_))))
  first
  | exact ⟨Ds.mean_long (by omega), (Le.refl _)⟩
  | exact ⟨Ds.mean_none (by omega), (Le.refl _)⟩
  | exact ⟨Ds.mean_some (by omega) (by omega) hdv, (Le.refl _)⟩
 refine C.skip (K3 (K2 (C.sr fun K8 => O.mv (O.call call22 (args1 rfl) (fsum_spec _ l _ _ hl (by omega)) ?_))))
 rintro v_15 w1 ⟨e1, rfl⟩
 have z1 := e1.size
 refine O.mv (O.len underlying37 rfl (hl.keep e1) (O.convIF underlying3 underlying22 rfl (O.quoF rfl rfl (fun r19 w2 e2 hf19 => ?_))))
 have z2 := e2.size
 refine O.call call35 (args1 rfl) (canon_spec _ _) ?_
 rintro v_20 w3 ⟨rfl, hw_⟩
 replace hw_ := hw_.symm
 subst hw_
 have hdv := Ds.canon_res hf19
 refine O.asg (O.asg (K8 (C.ret (Outs.two rfl rfl rfl ?_))))
 first
 | exact ⟨Ds.mean_long (by omega), (Ext.trans e1 e2)⟩
 | exact ⟨Ds.mean_none (by omega), (Ext.trans e1 e2)⟩
 | exact ⟨Ds.mean_some (by omega) (by omega) hdv, (Ext.trans e1 e2)⟩
theorem means_spec (v0 : Value) (l : List (BitVec 64)) (F : Nat → Prop) (m : BitVec 64) (e : Int) (w : World) (hl : Sl flE w F v0 l) (h1 : Ds.meanV l = m) (h2 : Ds.meanN l = e) :
 Ret Tryz.prog 19 #[v0, fl (m), .int .i64 (e)] w (fun v w' => v = .bool true ∧ Le w w') := by
 refine enT [v0, fl (m), .int .i64 (e)] 24 func19 rfl rfl (C.sr fun K1 => O.asg (K1 (C.sr fun K2 => O.mv (O.call call29 (args1 rfl) (dmean_spec _ l _ _ hl) ?_))))
 rintro v_11 w1 ⟨rfl, e1⟩
 have z1 := e1.size
 refine O.mv (O.extract rfl rfl (O.extract rfl rfl (O.asg (O.asg (K2 (C.sr fun K3 => O.mv (O.ext ext30 (args1 rfl) (run_bitsOf _) (O.mv (O.ext ext30 (args1 rfl) (run_bitsOf _) (O.eqlU (m := 64) rfl rfl (O.cast (v' := .bool true) (congrArg Value.bool (by exact decide_eq_true h1)) (O.mv (O.yes rfl rfl (O.mv (O.yes rfl rfl (O.mv (O.yes rfl rfl (O.eqlI rfl rfl (O.cast (v' := .bool true) (congrArg Value.bool (by exact decide_eq_true h2)) (O.pickT rfl (O.asg (K3 (C.ret (Outs.one rfl rfl ?_))))))))))))))))))))))))
 exact ⟨rfl, e1⟩
end Go.Proofs.YtbadfphdniliaaaGreatDoor
end
section
namespace Go.Proofs.YtbadfphdniliaaaGreatDoor
open Go.Pn Go.RowKit Go.Proofs Go.Sort _root_.Go.Proofs.Tryz
theorem closR_go (l : List (BitVec 64)) (x y : Int) (hx : 0 ≤ x ∧ x < l.length) (hy : 0 ≤ y ∧ y < l.length) : Fl.cmp (Fl.canon (l[y.toNat]'(by omega))) (Fl.canon (l[x.toNat]'(by omega))) = Fl.cmp (Fl.canon (l.getD y.toNat 0#64)) (Fl.canon (l.getD x.toNat 0#64)) := by
 have e : ∀ i, ∀ h : i < l.length, l.getD i 0#64 = l[i] := fun i h => by rw [List.getD_eq_getElem?_getD, List.getElem?_eq_getElem h]; rfl
 rw [e _ (by omega), e _ (by omega)]
theorem closR_spec (b : Nat) (v0 : Value) (l : List (BitVec 64)) (F : Nat → Prop) (x y : Int) (w : World) (ho : Own w b 37 [v0]) (hl : Sl flE w F v0 l) (hx : 0 ≤ x ∧ x < l.length) (hy : 0 ≤ y ∧ y < l.length) :
 Ret Tryz.prog 48 #[.int .i64 (x), .int .i64 (y), .pointer (some ⟨b, 0, none⟩)] w (fun v w' => v = .int .i64 (Fl.cmp (Fl.canon (l.getD y.toNat 0#64)) (Fl.canon (l.getD x.toNat 0#64))) ∧ Le w w' ∧ w.drawn ≤ w'.drawn) := by
 refine enT [.int .i64 (x), .int .i64 (y), .pointer (some ⟨b, 0, none⟩)] 17 func48 rfl rfl (C.sr fun K1 => O.asg (K1 (C.sq fun K2 => C.drawD (by kernel_rfl) fun w1 e1 d1 => ?_)))
 have z1 := e1.size
 refine D.t 0 rfl (Le.refl _) (fun _ hw_ _ hN => O.loadO isAgg37 rfl ((ho.keep e1).keep hw_) rfl (O.nil hN)) (D.mv 1 rfl (Le.refl _) ?_)
 obtain ⟨a8, h8, hr8⟩ := Sl.at (i := y) (P := Tryz.prog) underlying37 sizeOf22 rfl (hl.keep e1) (by omega)
 refine D.t 2 rfl (Le.refl _) (fun _ _ _ hN => O.idxR rfl rfl hr8 (O.nil hN)) (D.t 3 rfl (Le.refl _) (fun _ hw_ _ hN => O.loadF isAgg22 rfl (h8.keep hw_) (O.nil hN)) (D.t 5 rfl (Le.refl _) (fun _ hw_ _ hN => O.loadO isAgg37 rfl ((ho.keep e1).keep hw_) rfl (O.nil hN)) (D.mv 6 rfl (Le.refl _) ?_)))
 obtain ⟨a13, h13, hr13⟩ := Sl.at (i := x) (P := Tryz.prog) underlying37 sizeOf22 rfl (hl.keep e1) (by omega)
 refine D.t 7 rfl (Le.refl _) (fun _ _ _ hN => O.idxR rfl rfl hr13 (O.nil hN)) (D.t 8 rfl (Le.refl _) (fun _ hw_ _ hN => O.loadF isAgg22 rfl (h13.keep hw_) (O.nil hN)) (D.on 4 rfl rfl (O.call call35 (args1 rfl) (canon_spec _ _) ?_)))
 rintro v_10 w2 ⟨rfl, hw_⟩
 replace hw_ := hw_.symm
 subst hw_
 refine O.nil ⟨(Le.refl _), D.on 9 rfl rfl (O.call call35 (args1 rfl) (canon_spec _ _) ?_)⟩
 rintro v_15 w2 ⟨rfl, hw_⟩
 replace hw_ := hw_.symm
 subst hw_
 refine O.nil ⟨(Le.refl _), D.on 10 rfl rfl (O.call call23 (args2 rfl rfl) (cmp_spec _ _ _) ?_)⟩
 rintro v_16 w2 ⟨rfl, hw_⟩
 replace hw_ := hw_.symm
 subst hw_
 refine O.nil ⟨(Le.refl _), D.as 11 rfl (Le.refl _) (D.dn (K2 (C.ret (Outs.one rfl rfl ?_))))⟩
 exact ⟨congrArg (Value.int .i64) (closR_go l x y hx hy), e1, by omega⟩
theorem swoC (l : List (BitVec 64)) (n : Nat) : Go.Sort.SWO (ltOf (Ds.cfR l n)) where
 irrefl x := by unfold ltOf Ds.cfR; exact decide_eq_false (by rw [Fl.cmp_self]; decide)
 trans x y z h1 h2 := by
  unfold ltOf Ds.cfR at *
  simp only [decide_eq_true_eq] at *
  rw [Fl.cmp_lt_iff] at *
  rw [BitVec.lt_def] at *
  omega
 ntrans x y z h1 h2 := by
  unfold ltOf Ds.cfR at *
  simp only [decide_eq_false_iff_not] at *
  rw [Fl.cmp_lt_iff] at *
  rw [BitVec.lt_def] at *
  omega
def rankS (l : List (BitVec 64)) (m : Nat) : List (Fin (m + 1)) := (Go.Sort.insertionSort (ltOf (Ds.cfR l (m + 1))) (List.finRange (m + 1)).toArray 0 (m + 1)).toList
theorem rankS_size (l : List (BitVec 64)) (m : Nat) : (Go.Sort.insertionSort (ltOf (Ds.cfR l (m + 1))) (List.finRange (m + 1)).toArray 0 (m + 1)).size = m + 1 := by
 have h := Go.Sort.insertionSort_holds (lt := ltOf (Ds.cfR l (m + 1))) (swoC l (m + 1)) (List.finRange (m + 1)).toArray 0 (m + 1) (Nat.zero_le _) (by simp)
 obtain ⟨⟨hd, _, _⟩, _⟩ := h
 rw [hd]
 simp
theorem insR_spec (g cap b m : Nat) (v0 : Value) (l : List (BitVec 64)) (F : Nat → Prop) (B : Nat) (w : World) (h : OwnF Dt.intF 3 B w (.slice (some ⟨g, 0, none⟩) (m + 1) cap) (Ds.fillR (m + 1) (m + 1))) (hlm : l.length = m + 1) (hm : m ≤ 1000000) (ho : Own w b 37 [v0]) (hl : Sl flE w F v0 l) (hbg : b ≠ g) (hFg : ¬ F g) :
 Ret Tryz.prog 75 #[.slice (some ⟨g, 0, none⟩) (m + 1) cap, .int .i64 0, .int .i64 ((m + 1 : Nat) : Int), .func (.func 48) #[] #[.pointer (some ⟨b, 0, none⟩)]] w (fun r w' => r = .tuple #[] ∧ OwnF Dt.intF 3 B w' (.slice (some ⟨g, 0, none⟩) (m + 1) cap) ((rankS l m).map fun i => (i.val : Int)) ∧ Ext (fun k => k = g) w w') := by
 have h0 : OwnF (Ds.iF (m + 1)) 3 B w (.slice (some ⟨g, 0, none⟩) (List.finRange (m + 1)).length cap) (List.finRange (m + 1)) := by
  rw [List.length_finRange]
  exact h.as rfl (Ds.flat_fill (m + 1)) (by rw [Ds.fillR_length (Nat.le_refl _)]; simp)
 obtain ⟨hH, hlt⟩ := h0.holds (enc := Ds.encI (m + 1)) rfl (fun _ => rfl)
 have hsz : (List.finRange (m + 1)).toArray.size = m + 1 := by simp
 have eg : ∀ args w, (callFunc 48 args).run Tryz.prog w = .ok (.enter 48 args) w := enters_of func48 (by kernel_rfl) rfl
 have hcmp : CmpLays1 Tryz.prog 48 #[.pointer (some ⟨b, 0, none⟩)] (Ds.encI (m + 1)) (Ds.cfR l (m + 1)) g 0 (List.finRange (m + 1)).toArray.size w := fun q os dk hs x y => by
  obtain ⟨_, hx⟩ := h0.sorted (enc := Ds.encI (m + 1)) rfl (fun _ => rfl) (d := dk) (by rw [hs, hsz]; simp) q os
  refine (closR_spec b v0 l F (x.val : Int) (y.val : Int) _ (ho.keepM hx (fun hk => hbg hk)) (hl.keepM hx (fun k hk hk2 => hFg (hk2 ▸ hk))) (by have := x.isLt; omega) (by have := y.isLt; omega)).calls.mono ?_
  rintro e w' ⟨v, he, hv, hle, hd⟩
  exact ⟨by rw [he, hv]; rfl, grow_of_le hle hd⟩
 have hcon := Tryz.insertionSortCmpFunc_s_f75 (Ds.encI (m + 1)) (Ds.cfR l (m + 1)) 48 #[.pointer (some ⟨b, 0, none⟩)] g 0 cap 0 (m + 1) (List.finRange (m + 1)).toArray (List.finRange (m + 1)).toArray w w eg hcmp ⟨fun _ => rfl, hH, hlt⟩ rfl (SW.start hH) (Nat.zero_le _) (by rw [hsz]; exact Nat.le_refl _) (by rw [hsz]; omega)
 rw [hsz] at hcon
 refine Ret.of hcon ?_
 rintro e w' ⟨rfl, q, os, rfl⟩
 obtain ⟨h1, h2⟩ := h0.sorted (enc := Ds.encI (m + 1)) rfl (fun _ => rfl) (d := Go.Sort.insertionSort (ltOf (Ds.cfR l (m + 1))) (List.finRange (m + 1)).toArray 0 (m + 1)) (by rw [rankS_size]; simp) q os
 rw [List.length_finRange] at h1
 refine ⟨_, rfl, rfl, ?_, h2⟩
 exact h1.as rfl (Ds.flat_val (rankS l m)) (by simp [rankS])
theorem stbR_spec (g cap b m : Nat) (v0 : Value) (l : List (BitVec 64)) (F : Nat → Prop) (B : Nat) (w : World) (h : OwnF Dt.intF 3 B w (.slice (some ⟨g, 0, none⟩) (m + 1) cap) (Ds.fillR (m + 1) (m + 1))) (hlm : l.length = m + 1) (hm : m ≤ 18) (ho : Own w b 37 [v0]) (hl : Sl flE w F v0 l) (hbg : b ≠ g) (hFg : ¬ F g) :
 Ret Tryz.prog 64 #[.slice (some ⟨g, 0, none⟩) (m + 1) cap, .int .i64 (((m + 1 : Nat) : Int)), .func (.func 48) #[] #[.pointer (some ⟨b, 0, none⟩)]] w (fun v w' => v = .tuple #[] ∧ OwnF Dt.intF 3 B w' (.slice (some ⟨g, 0, none⟩) (m + 1) cap) ((rankS l m).map fun i => (i.val : Int)) ∧ Ext (fun k => k = g) w w') := by
 refine enT [.slice (some ⟨g, 0, none⟩) (m + 1) cap, .int .i64 (((m + 1 : Nat) : Int)), .func (.func 48) #[] #[.pointer (some ⟨b, 0, none⟩)]] 63 func64 rfl rfl (C.sr fun K1 => O.asg (K1 (C.sr fun K2 => O.mv (O.asg (O.asg (K2 (C.sq fun K3 => C.bl fun K4 => C.loop0 (σ := Nat) (fun f0 w0 z f w => f 7 = .int .i64 (0) ∧ f 8 = .int .i64 (20) ∧ f 0 = f0 0 ∧ f 1 = f0 1 ∧ f 2 = f0 2 ∧ f 6 = f0 6 ∧ w = w0) (fun z => z) 0 ?_ ?_)))))))
 ·
  exact ⟨rfl, rfl, rfl, rfl, rfl, rfl, rfl⟩
 rintro z f_1 wx ⟨s7_1, s8_1, s0_1, s1_1, s2_1, s6_1, rfl⟩
 refine C.sq fun K5 => C.sr fun K6 => O.mv (O.mv (O.leqI s8_1 s1_1 (O.cast (v' := .bool false) (congrArg Value.bool (by exact decide_eq_false (by omega))) (K6 (C.condF rfl (C.exit (K4 (K3 (C.sr fun K7 => O.mv (O.mv (O.mv (O.mv (O.call call75 (args4 s0_1 s7_1 s1_1 s2_1) (insR_spec g cap b m v0 l F B _ h hlm (by omega) ho hl hbg hFg) ?_)))))))))))))
 rintro v_27 w1 ⟨rfl, hsv27, e1⟩
 have z1 := e1.size
 refine K7 (C.bl fun K8 => C.loop0 (σ := Nat) (fun f0 w0 z f w => f 6 = .int .i64 (20) ∧ f 0 = f0 0 ∧ f 1 = f0 1 ∧ f 2 = f0 2 ∧ w = w0) (fun z => z) 0 ?_ ?_)
 ·
  exact ⟨s6_1, rfl, rfl, rfl, rfl⟩
 rintro z f_2 wx ⟨s6_2, s0_2, s1_2, s2_2, rfl⟩
 refine C.sq fun K9 => C.sr fun K10 => O.mv (O.mv (O.lssI s6_2 (Eq.trans s1_2 s1_1) (O.cast (v' := .bool false) (congrArg Value.bool (by exact decide_eq_false (by omega))) (K10 (C.condF rfl (C.exit (K8 (Outs.none rfl ?_))))))))
 exact ⟨rfl, hsv27, (Ext.nw (Ext.refl _ _) e1)⟩
theorem stfR_spec (g cap b m : Nat) (v0 : Value) (l : List (BitVec 64)) (F : Nat → Prop) (B : Nat) (w : World) (h : OwnF Dt.intF 3 B w (.slice (some ⟨g, 0, none⟩) (m + 1) cap) (Ds.fillR (m + 1) (m + 1))) (hlm : l.length = m + 1) (hm : m ≤ 18) (ho : Own w b 37 [v0]) (hl : Sl flE w F v0 l) (hbg : b ≠ g) (hFg : ¬ F g) :
 Ret Tryz.prog 47 #[.slice (some ⟨g, 0, none⟩) (m + 1) cap, .func (.func 48) #[] #[.pointer (some ⟨b, 0, none⟩)]] w (fun v w' => v = .tuple #[] ∧ OwnF Dt.intF 3 B w' (.slice (some ⟨g, 0, none⟩) (m + 1) cap) ((rankS l m).map fun i => (i.val : Int)) ∧ Ext (fun k => k = g) w w') := by
 refine enT [.slice (some ⟨g, 0, none⟩) (m + 1) cap, .func (.func 48) #[] #[.pointer (some ⟨b, 0, none⟩)]] 9 func47 rfl rfl (C.region (O.mv (O.mv (O.lenL underlying43 rfl (O.cast (v' := .int .i64 ((m + 1 : Nat) : Int)) rfl (O.mv (O.call call64 (args3 rfl rfl rfl) (stbR_spec g cap b m v0 l F B _ h hlm hm ho hl hbg hFg) ?_)))))))
 rintro v_8 w1 ⟨rfl, hsv8, e1⟩
 have z1 := e1.size
 refine O.nil (Outs.none rfl ?_)
 exact ⟨rfl, hsv8, (Ext.nw (Ext.refl _ _) e1)⟩
theorem sortR_spec (v : Value) (b m : Nat) (v0 : Value) (l : List (BitVec 64)) (F : Nat → Prop) (B : Nat) (w : World) (h : OwnF Dt.intF 3 B w v (Ds.fillR (m + 1) (m + 1))) (hlm : l.length = m + 1) (hm : m ≤ 18) (ho : Own w b 37 [v0]) (hl : Sl flE w F v0 l) (hbg : ∀ k, bk v k → b ≠ k) (hFg : ∀ k, bk v k → ¬ F k) :
 Ret Tryz.prog 47 #[v, .func (.func 48) #[] #[.pointer (some ⟨b, 0, none⟩)]] w (fun r w' => r = .tuple #[] ∧ OwnF Dt.intF 3 B w' v ((rankS l m).map fun i => (i.val : Int)) ∧ Ext (bk v) w w') := by
 have hfl := Ds.fillR_length (Nat.le_refl (m + 1))
 obtain ⟨g, cap, hv⟩ := OwnF.ptr h (by omega)
 rw [hfl] at hv
 subst hv
 exact stfR_spec g cap b m v0 l F B w h hlm hm ho hl (hbg g rfl) (hFg g rfl)
set_option maxHeartbeats 1000000 in
theorem drank_spec (p0 : Option Addr × Nat × Nat) (l : List (BitVec 64)) (F : Nat → Prop) (m : Nat) (w : World) (hl : Sl flE w F (slv p0) l) (hF : ∀ k, F k → k < w.heap.size) (hlm : l.length = m + 1) (hm : m ≤ 18) :
 Ret Tryz.prog 34 #[slv p0] w (fun v w' => Le w w' ∧ ∃ u, v = .tuple #[u, .int .i64 0] ∧ OwnF Dt.intF 3 w.heap.size w' u ((rankS l m).map fun i => (i.val : Int))) := by
 have _hF9 := hF
 obtain ⟨ie3, ti3, ts3, tb3, tz3⟩ := inf3
 refine enT [slv p0] 26 func34 rfl rfl (C.sr fun K1 => O.box (v := slv p0) rfl (fun b1 w1 hb1 hz1 e1 => ?_))
 have z1 := e1.size
 have h1 := hz1.own
 have hl1 := h1.lt
 refine O.asg (O.asg (K1 (C.sq fun K2 => C.sr fun K3 => O.loadO isAgg37 rfl h1 rfl (O.len underlying37 rfl (hl.keep e1) (O.gtrI rfl rfl (O.cast (v' := .bool false) (congrArg Value.bool (by exact decide_eq_false (by omega))) (K3 (C.condF rfl (C.skip (K2 (C.sr fun K4 => O.loadO isAgg37 rfl h1 rfl (O.len underlying37 rfl (hl.keep e1) (O.mkF (G := Dt.intF) (zx := (0 : Int)) underlying43 ti3 tz3 ts3 rfl rfl rfl (by rw [tb3]; omega) (by unfold maxLen; omega) (Nat.le_refl _) (fun b11 w2 hb11 hz11 ho11 e2 => ?_))))))))))))))
 have z2 := e2.size
 have ho11s := ho11.sl
 have ho11z : OwnF Dt.intF 3 w1.heap.size w2 (.slice (some ⟨b11, 0, none⟩) l.length l.length) (Ds.fillR (m + 1) 0) := by rw [Ds.fillR_zero, ← hlm]; exact ho11
 refine O.asg (K4 (C.sq fun K5 => C.sr fun K6 => O.mv (O.lenL underlying43 rfl (O.mv (K6 (C.bl fun K7 => C.loop0 (σ := Nat) (fun f0 w0 k f w => f 14 = .int .i64 ((k : Int)) ∧ f 1 = f0 1 ∧ f 2 = f0 2 ∧ f 3 = f0 3 ∧ f 4 = f0 4 ∧ f 13 = f0 13 ∧ Ext (fun i => i = b11) w0 w ∧ OwnF Dt.intF 3 w1.heap.size w (.slice (some ⟨b11, 0, none⟩) l.length l.length) (Ds.fillR (m + 1) k) ∧ k ≤ m + 1) (fun k => m + 1 - k) 0 ?_ ?_))))))
 ·
  refine ⟨rfl, rfl, rfl, rfl, rfl, rfl, Ext.refl _ _, ho11z, ?_⟩
  exact Nat.zero_le _
 rintro k f_1 w3 ⟨s14_1, s1_1, s2_1, s3_1, s4_1, s13_1, e_1, r0_1, hk⟩
 have z_1 := e_1.size
 have r0_1s := r0_1.sl
 refine C.sr fun K8 => O.lssI s14_1 s13_1 (K8 (C.sq fun K9 => C.condD rfl (fun c15 => ?_) (fun c15 => ?_)))
 ·
  refine C.skip (K9 (C.sq fun K10 => C.bl fun K11 => C.sr fun K12 => O.mv (O.asg (K12 (C.region (O.mv (O.mv (O.mv ?_))))))))
  obtain ⟨g20, cap20, hv20⟩ := OwnF.ptr r0_1 (by rw [Ds.fillR_length hk]; omega)
  have ho20 := r0_1
  rw [hv20] at ho20
  refine O.idxO underlying43 sizeOf3 (Eq.trans s4_1 hv20) s14_1 (by rw [Ds.fillR_length hk]; omega) (O.storeF (G := Dt.intF) ((k : Int)) sizeOf3 rfl (fun _ => rfl) rfl rfl s14_1 ho20 (by rw [Ds.fillR_length hk]; omega) (fun w4 hs4 e4 z4 => ?_))
  rw [← hv20] at hs4
  replace e4 : Ext (fun i => i = b11) w3 w4 := e4.mono (fun k _ hk => by have h9 := (Value.slice.inj hv20).1; cases h9; exact hk)
  simp only [Int.toNat_natCast, Nat.zero_add, Nat.mul_one] at hs4
  refine O.nil (K11 (K10 (C.region (O.ad s14_1 rfl (O.mv (O.nil (⟨k + 1, ⟨rfl, s1_1, s2_1, s3_1, s4_1, s13_1, (Ext.trans e_1 (e4)), (by rw [← Ds.fillR_set (show k < m + 1 by omega)]; exact hs4), ?_⟩, by first | omega | (simp only []; omega)⟩)))))))
  omega
 obtain rfl : k = m + 1 := by omega
 refine C.exit (K7 (K5 (C.sr fun K13 => O.mv (O.makeF (v1 := []) (v2 := [.pointer (some ⟨b1, 0, none⟩)]) rfl (args1 s1_1) ?_))))
 have t0 := Ext.nr (Ext.trans e1 e2) e_1
 refine O.call call47 (args2 s4_1 rfl) (sortR_spec (.slice (some ⟨b11, 0, none⟩) l.length l.length) b1 m (slv p0) l F _ _ r0_1 hlm hm ((h1.keep e2).keepO e_1) (hl.keep t0) (fun k hk => by have := (r0_1).bk_ge k hk; omega) (fun k hk hk2 => by have := (r0_1).bk_ge k hk; have := hF k hk2; omega)) ?_
 rintro v_24 w5 ⟨rfl, hsv24, e5⟩
 have z5 := e5.size
 refine K13 (C.sr fun K14 => O.mv (O.asg (O.asg (K14 (C.ret (Outs.two rfl s4_1 rfl ?_))))))
 exact ⟨(Ext.new t0 e5 (by intro i hi h; have := (r0_1).bk_ge i h; omega)), _, rfl, (hsv24).low (by omega)⟩
end Go.Proofs.YtbadfphdniliaaaGreatDoor
end
section
namespace Go.Proofs.YtbadfphdniliaaaGreatDoor
open Go.Pn Go.ChangeShapes Go.WideShapes Go.ChangeAt Go.RowKit
theorem pOwn : ownKnob Tryz.prog.godebug = none := by kernel_rfl
theorem pLaidOut : laidOutB Tryz.prog = true := by kernel_rfl
set_option maxRecDepth 100000 in
theorem fls_of {W : World} {H : Type} {enc : TypeId × Value → H} {base : Nat} {v : Value} {d : DataW H} {p : List MemPlace} (hval : Value.okWide Tryz.prog W .any base 37 v) (h : DataW.Trod enc Tryz.prog W 0 (fun _ => true) true 37 v d p) : ∃ l : List (BitVec 64), Sl flE W (fun k => k < W.heap.size) v l := by
 obtain ⟨l, h1, _⟩ := arg_slice (Opens.f64 (W := W) Tryz.underlying22 (by kernel_rfl)) Tryz.underlying37 (by kernel_rfl) (by decide) hval h
 exact ⟨l, h1⟩
theorem mx_of {W : World} (h : W.ShapedOpen Tryz.prog) : Mx W := ⟨Tryz.laysM144.s1_3 W h⟩
def pFlat : DataW Unit → List Value
 | .agg l => l.flatMap fun
   | .lit (.int k n) => [Value.int k n]
   | .agg l2 => l2.map fun
     | .lit (.int k n) => Value.int k n
     | _ => .nilIface
   | _ => [.nilIface]
 | _ => []
def pPut (h : Array Obj) (g : Nat) (cs : List Value) : Array Obj := h.modify g fun
 | .cells _ t frozen => .cells cs.toArray t frozen
 | o => o
noncomputable def pWorld (os : Os) : World :=
 { World.holding Tryz.prog os ⟨#[], #[], []⟩ with heap := (pPut (pPut (World.holding Tryz.prog os ⟨#[], #[], []⟩).heap 3 (pFlat Rows.laid_unicode_utf8_acceptRanges)) 2 (pFlat Rows.laid_unicode_utf8_first)) }
set_option maxRecDepth 100000 in
theorem pMet (os : Os) (args : Array Value) : laidMet Tryz.prog Rows.discountAppliesRow.laid ((pWorld os).forCall (fun _ _ => 0) ⟨#[], args, []⟩).memory :=
 laidMet_of_run' 8 (by kernel_rfl) (by kernel_rfl)
end Go.Proofs.YtbadfphdniliaaaGreatDoor
end
section
namespace Go.Proofs.YtbadfphdniliaaaGreatDoor
open Go.Pn Go.RowKit Go.Proofs _root_.Go.Proofs.Tryz
attribute [local irreducible] O C D
theorem _root_.Go.Pn.Ss.gdv (D : List Int) {i : Nat} (h : i < D.length) : Value.int .i64 (D[i]'h) = .int .i64 (D.getD i 0) := by rw [List.getD_eq_getElem?_getD, List.getElem?_eq_getElem h]; rfl
set_option maxHeartbeats 1000000 in
theorem swapR_spec (g n cap a b k B : Nat) (xs : List Int) (vf : Value) (w : World) (h : OwnF Dt.intF 3 B w (.slice (some ⟨g, 0, none⟩) n cap) (xs)) (hl : xs.length = n) (hab : a + k ≤ b) (hb : b + k ≤ n) (hn : n ≤ 1000000) :
 Ret Tryz.prog 109 #[.slice (some ⟨g, 0, none⟩) n cap, .int .i64 ((a : Int)), .int .i64 ((b : Int)), .int .i64 ((k : Int)), vf] w (fun v w' => v = .tuple #[] ∧ OwnF Dt.intF 3 B w' (.slice (some ⟨g, 0, none⟩) n cap) (Ss.swR xs a b k) ∧ Ext (fun j => j = g) w w') := by
 refine enT [.slice (some ⟨g, 0, none⟩) n cap, .int .i64 ((a : Int)), .int .i64 ((b : Int)), .int .i64 ((k : Int)), vf] 38 func109 rfl rfl (C.sr fun K1 => O.asg (K1 (C.bl fun K2 => C.loop0 (σ := Nat) (fun f0 w0 i f wz => f 10 = .int .i64 ((i : Int)) ∧ f 0 = f0 0 ∧ f 1 = f0 1 ∧ f 2 = f0 2 ∧ f 3 = f0 3 ∧ Ext (fun j => j = g) w wz ∧ OwnF Dt.intF 3 B wz (.slice (some ⟨g, 0, none⟩) n cap) (Ss.swR xs a b i) ∧ i ≤ k) (fun i => k - i) 0 ?_ ?_)))
 ·
  refine ⟨rfl, rfl, rfl, rfl, rfl, (Ext.refl _ _), h, ?_⟩
  exact Nat.zero_le _
 rintro i f_1 w1 ⟨s10_1, s0_1, s1_1, s2_1, s3_1, e_1, r0_1, hk⟩
 have z_1 := e_1.size
 have r0_1s := r0_1.sl
 refine C.sq fun K3 => C.sr fun K4 => O.mv (O.mv (O.lssI s10_1 s3_1 (K4 (C.condD rfl (fun c13 => ?_) (fun c13 => ?_)))))
 ·
  have hlw := Ss.swR_length xs a b i
  have hik : i < k := by omega
  refine C.skip (K3 (C.sq fun K5 => C.bl fun K6 => C.drawM (fun j => j = g) (by kernel_rfl) fun w2 e2 => ?_))
  have z2 := e2.size
  refine DM.take (i := 0) rfl rfl rfl rfl (by kernel_rfl) (Ext.refl _ _) ⟨pure _, rfl⟩ (fun _ hw_ _ hN => O.mv (O.nil hN)) (DM.take (i := 1) rfl rfl rfl rfl (by kernel_rfl) (Ext.refl _ _) ⟨pure _, rfl⟩ (fun _ hw_ _ hN => O.mv (O.nil hN)) (DM.take (i := 2) rfl rfl rfl rfl (by kernel_rfl) (Ext.refl _ _) ⟨pure _, rfl⟩ (fun _ hw_ _ hN => O.mv (O.nil hN)) (DM.take (i := 3) rfl rfl rfl rfl (by kernel_rfl) (Ext.refl _ _) ⟨_, rfl⟩ (fun _ hw_ _ hN => O.ad s1_1 s10_1 (O.nil hN)) (DM.take (i := 4) rfl rfl rfl rfl (by kernel_rfl) (Ext.refl _ _) ⟨pure _, rfl⟩ (fun _ hw_ _ hN => O.mv (O.nil hN)) ?_))))
  refine DM.take (i := 5) rfl rfl rfl rfl (by kernel_rfl) (Ext.refl _ _) ⟨pure _, rfl⟩ (fun _ hw_ _ hN => O.mv (O.nil hN)) (DM.take (i := 6) rfl rfl rfl rfl (by kernel_rfl) (Ext.refl _ _) ⟨pure _, rfl⟩ (fun _ hw_ _ hN => O.mv (O.nil hN)) (DM.take (i := 7) rfl rfl rfl rfl (by kernel_rfl) (Ext.refl _ _) ⟨_, rfl⟩ (fun _ hw_ _ hN => O.ad s2_1 s10_1 (O.nil hN)) (DM.take (i := 8) rfl rfl rfl rfl (by kernel_rfl) (Ext.refl _ _) ⟨pure _, rfl⟩ (fun _ hw_ _ hN => O.mv (O.nil hN)) (DM.take (i := 9) rfl rfl rfl rfl (by kernel_rfl) (Ext.refl _ _) ⟨pure _, rfl⟩ (fun _ hw_ _ hN => O.mv (O.nil hN)) ?_))))
  refine DM.take (i := 10) rfl rfl rfl rfl (by kernel_rfl) (Ext.refl _ _) ⟨pure _, rfl⟩ (fun _ hw_ _ hN => O.mv (O.nil hN)) (DM.take (i := 11) rfl rfl rfl rfl (by kernel_rfl) (Ext.refl _ _) ⟨_, rfl⟩ (fun _ hw_ _ hN => O.ad s2_1 s10_1 (O.nil hN)) ?_)
  obtain ⟨g28, cap28, hv28⟩ := OwnF.ptr (r0_1.keep e2) (by omega)
  have ho28 := (r0_1.keep e2)
  rw [hv28] at ho28
  refine DM.take (i := 12) rfl rfl rfl rfl (by kernel_rfl) (Ext.refl _ _) ⟨_, rfl⟩ (fun _ hw_ _ hN => O.idxO underlying43 sizeOf3 (Eq.trans s0_1 hv28) (Eq.trans rfl (i64_eq (show (b : Int) + (i : Int) = ((b + i : Nat) : Int) by omega))) (by omega) (O.nil hN)) (DM.take (i := 14) rfl rfl rfl rfl (by kernel_rfl) (Ext.refl _ _) ⟨pure _, rfl⟩ (fun _ hw_ _ hN => O.mv (O.nil hN)) (DM.take (i := 15) rfl rfl rfl rfl (by kernel_rfl) (Ext.refl _ _) ⟨pure _, rfl⟩ (fun _ hw_ _ hN => O.mv (O.nil hN)) (DM.take (i := 16) rfl rfl rfl rfl (by kernel_rfl) (Ext.refl _ _) ⟨pure _, rfl⟩ (fun _ hw_ _ hN => O.mv (O.nil hN)) ?_)))
  refine DM.take (i := 17) rfl rfl rfl rfl (by kernel_rfl) (Ext.refl _ _) ⟨_, rfl⟩ (fun _ hw_ _ hN => O.ad s1_1 s10_1 (O.nil hN)) ?_
  obtain ⟨g34, cap34, hv34⟩ := OwnF.ptr (r0_1.keep e2) (by omega)
  have ho34 := (r0_1.keep e2)
  rw [hv34] at ho34
  refine DM.take (i := 18) rfl rfl rfl rfl (by kernel_rfl) (Ext.refl _ _) ⟨_, rfl⟩ (fun _ hw_ _ hN => O.idxO underlying43 sizeOf3 (Eq.trans s0_1 hv34) (Eq.trans rfl (i64_eq (show (a : Int) + (i : Int) = ((a + i : Nat) : Int) by omega))) (by omega) (O.nil hN)) (DM.many [13, 19] (by kernel_rfl) (by decide) ⟨?_, ?_, trivial⟩)
  ·
   refine DM.stepU rfl rfl (O.loadC (G := Dt.intF) (i := b + i) (off := 0) (by simp [Dt.intF]; omega) isAgg3 rfl ho28 (by omega) rfl (O.nil ⟨(Ext.refl _ _), DM.one (i := 19) rfl rfl (by kernel_rfl) (O.loadC (G := Dt.intF) (i := a + i) (off := 0) (by simp [Dt.intF]; omega) isAgg3 rfl ho34 (by omega) rfl (O.nil ⟨(Ext.refl _ _), ?_⟩))⟩))
   obtain ⟨g36, cap36, hv36⟩ := OwnF.ptr (r0_1.keep e2) (by omega)
   have ho36 := (r0_1.keep e2)
   rw [hv36] at ho36
   refine DM.take (i := 20) rfl rfl rfl rfl (by kernel_rfl) (Ext.refl _ _) ⟨_, rfl⟩ (fun _ hw_ _ hN => O.idxO underlying43 sizeOf3 (Eq.trans s0_1 hv36) (Eq.trans rfl (i64_eq (show (a : Int) + (i : Int) = ((a + i : Nat) : Int) by omega))) (by omega) (O.nil hN)) (DM.one (i := 21) rfl rfl (by kernel_rfl) (O.storeF (G := Dt.intF) ((Ss.swR xs a b i).getD (b + i) 0) sizeOf3 rfl (fun _ => rfl) rfl rfl (Eq.trans rfl (Ss.gdv _ _)) ho36 (by omega) (fun w3 hs3 e3 z3 => ?_)))
   rw [← hv36] at hs3
   replace e3 : Ext (fun j => j = g) w2 w3 := e3.mono (fun k _ hk => by have h9 := (Value.slice.inj hv36).1; cases h9; exact hk)
   simp only [Int.toNat_natCast, Nat.zero_add, Nat.mul_one] at hs3
   refine O.nil ⟨(Ext.new (Ext.refl _ _) e3 (by intro i9 _ h9; exact h9)), ?_⟩
   obtain ⟨g37, cap37, hv37⟩ := OwnF.ptr hs3 (by simp only [List.length_set]; omega)
   have ho37 := hs3
   rw [hv37] at ho37
   refine DM.take (i := 22) rfl rfl rfl rfl (by kernel_rfl) (Ext.new (Ext.refl _ _) e3 (by intro i9 _ h9; exact h9)) ⟨_, rfl⟩ (fun _ hw_ _ hN => O.idxO underlying43 sizeOf3 (Eq.trans s0_1 hv37) (Eq.trans rfl (i64_eq (show (b : Int) + (i : Int) = ((b + i : Nat) : Int) by omega))) (by simp only [List.length_set]; omega) (O.nil hN)) (DM.one (i := 23) rfl rfl (by kernel_rfl) (O.storeF (G := Dt.intF) ((Ss.swR xs a b i).getD (a + i) 0) sizeOf3 rfl (fun _ => rfl) rfl rfl (Eq.trans rfl (Ss.gdv _ _)) ho37 (by simp only [List.length_set]; omega) (fun w4 hs4 e4 z4 => ?_)))
   rw [← hv37] at hs4
   replace e4 : Ext (fun j => j = g) w3 w4 := e4.mono (fun k _ hk => by have h9 := (Value.slice.inj hv37).1; cases h9; exact hk)
   simp only [Int.toNat_natCast, Nat.zero_add, Nat.mul_one] at hs4
   refine O.nil ⟨(Ext.new (Ext.new (Ext.refl _ _) e3 (by intro i9 _ h9; exact h9)) e4 (by intro i9 _ h9; exact h9)), DM.done (by kernel_rfl) (K6 (K5 (C.region (O.mv (O.ad s10_1 rfl (O.asg (O.nil (⟨i + 1, ⟨rfl, s0_1, s1_1, s2_1, s3_1, (Ext.nw (Ext.nw (Ext.nw (Ext.nw (Ext.refl _ _) e_1) e2) e3) e4), hs4, ?_⟩, by first | omega | (simp only []; omega)⟩))))))))⟩
   omega
  refine DM.stepU rfl rfl (O.loadC (G := Dt.intF) (i := a + i) (off := 0) (by simp [Dt.intF]; omega) isAgg3 rfl ho34 (by omega) rfl (O.nil ⟨(Ext.refl _ _), DM.one (i := 13) rfl rfl (by kernel_rfl) (O.loadC (G := Dt.intF) (i := b + i) (off := 0) (by simp [Dt.intF]; omega) isAgg3 rfl ho28 (by omega) rfl (O.nil ⟨(Ext.refl _ _), ?_⟩))⟩))
  obtain ⟨g36, cap36, hv36⟩ := OwnF.ptr (r0_1.keep e2) (by omega)
  have ho36 := (r0_1.keep e2)
  rw [hv36] at ho36
  refine DM.take (i := 20) rfl rfl rfl rfl (by kernel_rfl) (Ext.refl _ _) ⟨_, rfl⟩ (fun _ hw_ _ hN => O.idxO underlying43 sizeOf3 (Eq.trans s0_1 hv36) (Eq.trans rfl (i64_eq (show (a : Int) + (i : Int) = ((a + i : Nat) : Int) by omega))) (by omega) (O.nil hN)) (DM.one (i := 21) rfl rfl (by kernel_rfl) (O.storeF (G := Dt.intF) ((Ss.swR xs a b i).getD (b + i) 0) sizeOf3 rfl (fun _ => rfl) rfl rfl (Eq.trans rfl (Ss.gdv _ _)) ho36 (by omega) (fun w5 hs5 e5 z5 => ?_)))
  rw [← hv36] at hs5
  replace e5 : Ext (fun j => j = g) w2 w5 := e5.mono (fun k _ hk => by have h9 := (Value.slice.inj hv36).1; cases h9; exact hk)
  simp only [Int.toNat_natCast, Nat.zero_add, Nat.mul_one] at hs5
  refine O.nil ⟨(Ext.new (Ext.refl _ _) e5 (by intro i9 _ h9; exact h9)), ?_⟩
  obtain ⟨g37, cap37, hv37⟩ := OwnF.ptr hs5 (by simp only [List.length_set]; omega)
  have ho37 := hs5
  rw [hv37] at ho37
  refine DM.take (i := 22) rfl rfl rfl rfl (by kernel_rfl) (Ext.new (Ext.refl _ _) e5 (by intro i9 _ h9; exact h9)) ⟨_, rfl⟩ (fun _ hw_ _ hN => O.idxO underlying43 sizeOf3 (Eq.trans s0_1 hv37) (Eq.trans rfl (i64_eq (show (b : Int) + (i : Int) = ((b + i : Nat) : Int) by omega))) (by simp only [List.length_set]; omega) (O.nil hN)) (DM.one (i := 23) rfl rfl (by kernel_rfl) (O.storeF (G := Dt.intF) ((Ss.swR xs a b i).getD (a + i) 0) sizeOf3 rfl (fun _ => rfl) rfl rfl (Eq.trans rfl (Ss.gdv _ _)) ho37 (by simp only [List.length_set]; omega) (fun w6 hs6 e6 z6 => ?_)))
  rw [← hv37] at hs6
  replace e6 : Ext (fun j => j = g) w5 w6 := e6.mono (fun k _ hk => by have h9 := (Value.slice.inj hv37).1; cases h9; exact hk)
  simp only [Int.toNat_natCast, Nat.zero_add, Nat.mul_one] at hs6
  refine O.nil ⟨(Ext.new (Ext.new (Ext.refl _ _) e5 (by intro i9 _ h9; exact h9)) e6 (by intro i9 _ h9; exact h9)), DM.done (by kernel_rfl) (K6 (K5 (C.region (O.mv (O.ad s10_1 rfl (O.asg (O.nil (⟨i + 1, ⟨rfl, s0_1, s1_1, s2_1, s3_1, (Ext.nw (Ext.nw (Ext.nw (Ext.nw (Ext.refl _ _) e_1) e2) e5) e6), hs6, ?_⟩, by first | omega | (simp only []; omega)⟩))))))))⟩
  omega
 obtain rfl : i = k := by omega
 refine C.exit (K2 (Outs.none rfl ?_))
 exact ⟨rfl, r0_1, (Ext.nw (Ext.refl _ _) e_1)⟩
set_option maxHeartbeats 1000000 in
theorem rot_spec (g n cap a m b B : Nat) (P A Y T0 : List Int) (vf : Value) (w : World) (h : OwnF Dt.intF 3 B w (.slice (some ⟨g, 0, none⟩) n cap) (P ++ (A ++ (Y ++ T0)))) (hl : P.length + A.length + Y.length + T0.length = n) (ha : a = P.length) (hm : m = a + A.length) (hb : b = m + Y.length) (hA : 0 < A.length) (hC : 0 < Y.length) (hn : n ≤ 1000000) :
 Ret Tryz.prog 97 #[.slice (some ⟨g, 0, none⟩) n cap, .int .i64 ((a : Int)), .int .i64 ((m : Int)), .int .i64 ((b : Int)), vf] w (fun v w' => v = .tuple #[] ∧ OwnF Dt.intF 3 B w' (.slice (some ⟨g, 0, none⟩) n cap) (P ++ (Y ++ (A ++ T0))) ∧ Ext (fun j => j = g) w w') := by
 refine enT [.slice (some ⟨g, 0, none⟩) n cap, .int .i64 ((a : Int)), .int .i64 ((m : Int)), .int .i64 ((b : Int)), vf] 58 func97 rfl rfl (C.sr fun K1 => O.mv (O.mv (O.sb rfl rfl (O.asg (K1 (C.sr fun K2 => O.mv (O.mv (O.sb rfl rfl (O.asg (K2 (C.sq fun K3 => C.bl fun K4 => ?_)))))))))))
 refine C.loop0 (σ := Nat × Nat × List Int × List Int × List Int × List Int) (fun f0 w0 ⟨i, j, Q, U, V, T⟩ f wz => f 10 = .int .i64 ((i : Int)) ∧ f 11 = .int .i64 ((j : Int)) ∧ f 0 = f0 0 ∧ f 2 = f0 2 ∧ f 4 = f0 4 ∧ Ext (fun j => j = g) w wz ∧ OwnF Dt.intF 3 B wz (.slice (some ⟨g, 0, none⟩) n cap) (Q ++ (U ++ (V ++ T))) ∧ U.length = i ∧ V.length = j ∧ 0 < i ∧ 0 < j ∧ Q.length + i = m ∧ Q.length + i + j + T.length = n ∧ Q ++ (V ++ (U ++ T)) = P ++ (Y ++ (A ++ T0))) (fun ⟨i, j, Q, U, V, T⟩ => i + j) (A.length, Y.length, P, A, Y, T0) ?_ ?_
 ·
  refine ⟨(Eq.trans rfl (i64_eq (show (m : Int) - (a : Int) = ((A.length : Nat) : Int) by omega))), (Eq.trans rfl (i64_eq (show (b : Int) - (m : Int) = ((Y.length : Nat) : Int) by omega))), rfl, rfl, rfl, (Ext.refl _ _), h, ?_⟩
  exact ⟨rfl, rfl, hA, hC, by omega, by omega, rfl⟩
 rintro ⟨i, j, Q, U, V, T⟩ f_1 w1 ⟨s10_1, s11_1, s0_1, s2_1, s4_1, e_1, r0_1, ⟨hU, hV, hi0, hj0, hQ, hT, hE⟩⟩
 have z_1 := e_1.size
 have r0_1s := r0_1.sl
 have hlw : (Q ++ (U ++ (V ++ T))).length = n := by simp only [List.length_append]; omega
 refine C.sq fun K5 => C.sr fun K6 => O.mv (O.mv (O.neqI s10_1 s11_1 (K6 (C.condD rfl (fun c20 => ?_) (fun c20 => ?_)))))
 ·
  have hij : i ≠ j := by omega
  refine C.skip (K5 (C.bl fun K7 => C.sr fun K8 => O.mv (O.mv (O.gtrI s10_1 s11_1 (K8 (C.condD rfl (fun c23 => ?_) (fun c23 => ?_)))))))
  ·
   refine C.sr fun K9 => O.mv (O.mv (O.mv (O.sb s2_1 s10_1 (O.mv (O.mv (O.mv (O.call call109 (args5 s0_1 (Eq.trans rfl (i64_eq (show (m : Int) - (i : Int) = ((m - i : Nat) : Int) by omega))) s2_1 s11_1 s4_1) (swapR_spec g n cap (m - i) m j B (Q ++ (U ++ (V ++ T))) vf _ r0_1 hlw (by omega) (by omega) hn) ?_)))))))
   rintro v_31 w2 ⟨rfl, hsv31, e2⟩
   have z2 := e2.size
   rw [Ss.rot1 (by omega) (by omega) (by omega) (by omega)] at hsv31
   have hk9 : (U.drop j).length = i - j ∧ (U.take j).length = j ∧ 0 < i - j ∧ 0 < j ∧ (Q ++ V).length + (i - j) = m ∧ (Q ++ V).length + (i - j) + j + T.length = n ∧ (Q ++ V) ++ (U.take j ++ (U.drop j ++ T)) = P ++ (Y ++ (A ++ T0)) := by
    have q1 : (Q ++ V).length = Q.length + V.length := List.length_append
    rw [List.length_drop, List.length_take]
    exact ⟨by omega, by omega, by omega, by omega, by omega, by omega, Ss.rotE1 hE⟩
   refine K9 (C.region (O.mv (O.mv (O.sb s10_1 s11_1 (O.asg (O.nil (K7 (⟨(i - j, j, Q ++ V, U.drop j, U.take j, T), ⟨(Eq.trans rfl (i64_eq (show (i : Int) - (j : Int) = ((i - j : Nat) : Int) by omega))), s11_1, s0_1, s2_1, s4_1, (Ext.nw (Ext.nw (Ext.refl _ _) e_1) e2), hsv31, ?_⟩, by first | omega | (simp only []; omega)⟩))))))))
   exact hk9
  refine C.sr fun K10 => O.mv (O.mv (O.mv (O.sb s2_1 s10_1 (O.mv (O.mv (O.ad s2_1 s11_1 (O.mv (O.subI (Eq.trans rfl (i64_eq (show (m : Int) + (j : Int) = ((m + j : Nat) : Int) by omega))) s10_1 (by unfold InI; omega) (O.mv (O.mv (O.call call109 (args5 s0_1 (Eq.trans rfl (i64_eq (show (m : Int) - (i : Int) = ((m - i : Nat) : Int) by omega))) (Eq.trans rfl (i64_eq (show ((m + j : Nat) : Int) - (i : Int) = ((m + j - i : Nat) : Int) by omega))) s10_1 s4_1) (swapR_spec g n cap (m - i) (m + j - i) i B (Q ++ (U ++ (V ++ T))) vf _ r0_1 hlw (by omega) (by omega) hn) ?_)))))))))))
  rintro v_46 w3 ⟨rfl, hsv46, e3⟩
  have z3 := e3.size
  rw [Ss.rot2 (j := j - i) (by omega) (by omega) (by omega) (by omega)] at hsv46
  have hk9 : (V.drop (j - i)).length = i ∧ (V.take (j - i)).length = j - i ∧ 0 < i ∧ 0 < j - i ∧ Q.length + i = m ∧ Q.length + i + (j - i) + (U ++ T).length = n ∧ Q ++ (V.take (j - i) ++ (V.drop (j - i) ++ (U ++ T))) = P ++ (Y ++ (A ++ T0)) := by
   have q1 : (U ++ T).length = U.length + T.length := List.length_append
   rw [List.length_drop, List.length_take]
   exact ⟨by omega, by omega, by omega, by omega, by omega, by omega, Ss.rotE2 hE⟩
  refine K10 (C.region (O.mv (O.mv (O.sb s11_1 s10_1 (O.asg (O.nil (K7 (⟨(i, j - i, Q, V.drop (j - i), V.take (j - i), U ++ T), ⟨s10_1, (Eq.trans rfl (i64_eq (show (j : Int) - (i : Int) = ((j - i : Nat) : Int) by omega))), s0_1, s2_1, s4_1, (Ext.nw (Ext.nw (Ext.refl _ _) e_1) e3), hsv46, ?_⟩, by first | omega | (simp only []; omega)⟩))))))))
  exact hk9
 obtain rfl : i = j := by omega
 refine C.exit (K4 (K3 (C.region (O.mv (O.mv (O.mv (O.sb s2_1 s10_1 (O.mv (O.mv (O.mv (O.call call109 (args5 s0_1 (Eq.trans rfl (i64_eq (show (m : Int) - (i : Int) = ((m - i : Nat) : Int) by omega))) s2_1 s10_1 s4_1) (swapR_spec g n cap (m - i) m i B (Q ++ (U ++ (V ++ T))) vf _ r0_1 hlw (by omega) (by omega) hn) ?_)))))))))))
 rintro v_57 w4 ⟨rfl, hsv57, e4⟩
 have z4 := e4.size
 rw [Ss.rot3 (by omega) (by omega) (by omega) (by omega), hE] at hsv57
 refine O.nil (Outs.none rfl ?_)
 exact ⟨rfl, hsv57, (Ext.nw (Ext.nw (Ext.refl _ _) e_1) e4)⟩
end Go.Proofs.YtbadfphdniliaaaGreatDoor
end
section
namespace Go.Proofs.YtbadfphdniliaaaGreatDoor
open Go.Pn Go.RowKit Go.Proofs _root_.Go.Proofs.Tryz
attribute [local irreducible] O C D
def _root_.Go.Pn.Ds.kx (l : List (BitVec 64)) (x : Int) : Nat := (Fl.key (Fl.canon (l.getD x.toNat 0#64))).toNat
theorem call48 : ∀ args w, (callFunc 48 args).run Tryz.prog w = .ok (.enter 48 args) w := enters_of func48 (by kernel_rfl) rfl
theorem cmpS_spec (c : Nat) (v0 : Value) (l : List (BitVec 64)) (F : Nat → Prop) (x y : Int) (w : World) (ho : Own w c 37 [v0]) (hlf : Sl flE w F v0 l) (hx : 0 ≤ x ∧ x < (l.length : Int)) (hy : 0 ≤ y ∧ y < (l.length : Int)) :
 Ret Tryz.prog 48 #[.int .i64 x, .int .i64 y, .pointer (some ⟨c, 0, none⟩)] w (fun v w' => ∃ z : Int, v = .int .i64 z ∧ (z < 0 ↔ Ds.kx l y < Ds.kx l x) ∧ Le w w') := by
 refine (closR_spec c v0 l F x y w ho hlf hx hy).mono ?_
 rintro v w' ⟨rfl, hle, _⟩
 refine ⟨_, rfl, ?_, hle⟩
 rw [Fl.cmp_lt_iff, BitVec.lt_def]
 exact Iff.rfl
set_option maxHeartbeats 2000000 in
theorem insS_spec (g n cap a b B : Nat) (P A T0 : List Int) (c : Nat) (v0 : Value) (l : List (BitVec 64)) (F : Nat → Prop) (w : World) (h : OwnF Dt.intF 3 B w (.slice (some ⟨g, 0, none⟩) n cap) (P ++ (A ++ T0))) (ho : Own w c 37 [v0]) (hlf : Sl flE w F v0 l) (hcg : c ≠ g) (hFg : ¬ F g) (hl : P.length + A.length + T0.length = n) (ha : a = P.length) (hb : b = a + A.length) (hn : n ≤ 1000000) (hA : A.Pairwise (· < ·)) (hz : ∀ x ∈ A, 0 ≤ x ∧ x < (l.length : Int)) :
 Ret Tryz.prog 75 #[.slice (some ⟨g, 0, none⟩) n cap, .int .i64 ((a : Int)), .int .i64 ((b : Int)), .func (.func 48) #[] #[.pointer (some ⟨c, 0, none⟩)]] w (fun v w' => v = .tuple #[] ∧ (∃ M, Ss.Asc (Ds.kx l) M ∧ M.Perm A ∧ OwnF Dt.intF 3 B w' (.slice (some ⟨g, 0, none⟩) n cap) (P ++ (M ++ T0))) ∧ Ext (fun j => j = g) w w') := by
 refine enT [.slice (some ⟨g, 0, none⟩) n cap, .int .i64 ((a : Int)), .int .i64 ((b : Int)), .func (.func 48) #[] #[.pointer (some ⟨c, 0, none⟩)]] 53 func75 rfl rfl (C.sr fun K1 => O.mv (O.ad rfl rfl (O.asg (K1 (C.bl fun K2 => C.loop0 (σ := Nat × List Int) (fun f0 w0 ⟨d, E⟩ f wz => f 8 = .int .i64 (((a + d : Nat) : Int)) ∧ f 0 = f0 0 ∧ f 1 = f0 1 ∧ f 2 = f0 2 ∧ f 3 = f0 3 ∧ Ext (fun j => j = g) w wz ∧ OwnF Dt.intF 3 B wz (.slice (some ⟨g, 0, none⟩) n cap) (P ++ (E ++ (A.drop d ++ T0))) ∧ E.Perm (A.take d) ∧ Ss.Asc (Ds.kx l) E ∧ 1 ≤ d ∧ (d ≤ A.length ∨ d = 1)) (fun ⟨d, E⟩ => n + 1 - d) (1, A.take 1) ?_ ?_)))))
 ·
  refine ⟨(Eq.trans rfl (i64_eq (show (a : Int) + 1 = ((a + 1 : Nat) : Int) by omega))), rfl, rfl, rfl, rfl, (Ext.refl _ _), (by rw [← List.append_assoc (A.take 1), List.take_append_drop]; exact h), ?_⟩
  exact ⟨List.Perm.refl _, Ss.asc_one A, Nat.le_refl _, .inr rfl⟩
 rintro ⟨d, E⟩ f_1 w1 ⟨s8_1, s0_1, s1_1, s2_1, s3_1, e_1, r0_1, ⟨hp, hasc, hd1, hd2⟩⟩
 have z_1 := e_1.size
 have r0_1s := r0_1.sl
 refine C.sq fun K3 => C.sr fun K4 => O.mv (O.mv (O.lssI s8_1 s2_1 (K4 (C.condD rfl (fun c14 => ?_) (fun c14 => ?_)))))
 ·
  have hd : d < A.length := by omega
  have hEl : E.length = d := by rw [hp.length_eq, List.length_take]; omega
  obtain ⟨x, hx⟩ : ∃ x, x = A.getD d 0 := ⟨_, rfl⟩
  obtain ⟨R, hR⟩ : ∃ R, R = A.drop (d + 1) ++ T0 := ⟨_, rfl⟩
  have hRl : R.length = A.length - (d + 1) + T0.length := by rw [hR, List.length_append, List.length_drop]
  have hxz : 0 ≤ x ∧ x < (l.length : Int) := hx ▸ hz _ (Ss.getD_mem hd)
  have hEz : ∀ x ∈ E, 0 ≤ x ∧ x < (l.length : Int) := fun y hy => hz y (List.mem_of_mem_take (hp.mem_iff.1 hy))
  have h0x : OwnF Dt.intF 3 B w1 (.slice (some ⟨g, 0, none⟩) n cap) (Ss.insW P E x d R) := by rw [hx, hR, Ss.ins_start hEl hd]; exact r0_1
  refine C.skip (K3 (C.sq fun K5 => C.bl fun K6 => C.sr fun K7 => O.mv (O.asg (K7 (C.bl fun K8 => C.loop0 (σ := Nat) (fun f0 w0 t f wz => f 9 = .int .i64 (((a + t : Nat) : Int)) ∧ f 0 = f0 0 ∧ f 1 = f0 1 ∧ f 2 = f0 2 ∧ f 3 = f0 3 ∧ f 8 = f0 8 ∧ Ext (fun j => j = g) w wz ∧ OwnF Dt.intF 3 B wz (.slice (some ⟨g, 0, none⟩) n cap) (Ss.insW P E x t R) ∧ t ≤ d ∧ ∀ y ∈ E.drop t, Ss.L (Ds.kx l) x y) (fun t => t) d ?_ ?_)))))
  ·
   refine ⟨s8_1, rfl, rfl, rfl, rfl, rfl, (Ext.nw (Ext.refl _ _) e_1), h0x, ?_⟩
   exact ⟨Nat.le_refl _, fun y hy => by rw [← hEl, List.drop_length] at hy; cases hy⟩
  rintro t f_2 w2 ⟨s9_2, s0_2, s1_2, s2_2, s3_2, s8_2, e_2, r0_2, ⟨ht, hab⟩⟩
  have z_2 := e_2.size
  have r0_2s := r0_2.sl
  have hwl := Ss.insW_length P E x t R
  refine C.sq fun K9 => C.sd fun K10 w3 e3 z3 => D.mv 0 rfl (Le.refl _) (D.mv 1 rfl (Le.refl _) (D.t 2 rfl (Le.refl _) (fun _ _ _ hN => O.gtrI s9_2 (Eq.trans s1_2 s1_1) (O.nil hN)) (D.mv 3 rfl (Le.refl _) (D.splitD (x := .tmp 21) rfl (fun c21 => ?_) (fun c21 => ?_)))))
  ·
   refine D.ty 4 rfl rfl rfl rfl (isT rfl c21) (Le.refl _) ⟨pure _, rfl⟩ (fun _ hw_ _ hN => O.mv (O.nil hN)) (D.ty 5 rfl rfl rfl rfl (isT rfl c21) (Le.refl _) ⟨pure _, rfl⟩ (fun _ hw_ _ hN => O.mv (O.nil hN)) (D.ty 6 rfl rfl rfl rfl (isT rfl c21) (Le.refl _) ⟨pure _, rfl⟩ (fun _ hw_ _ hN => O.mv (O.nil hN)) ?_))
   obtain ⟨a25, h25, hr25⟩ := Sl.at (i := ((a + t : Nat) : Int)) (P := Tryz.prog) underlying43 sizeOf3 rfl (r0_2s.keep e3) (by omega)
   refine D.ty 7 rfl rfl rfl rfl (isT rfl c21) (Le.refl _) ⟨_, rfl⟩ (fun _ hw_ _ hN => O.idxR (Eq.trans s0_2 s0_1) s9_2 hr25 (O.nil hN)) (D.ty 8 rfl rfl rfl rfl (isT rfl c21) (Le.refl _) ⟨_, rfl⟩ (fun _ hw_ _ hN => O.load1F (G := Dt.intF) isAgg3 rfl rfl rfl (h25.keep hw_) (O.nil hN)) (D.ty 9 rfl rfl rfl rfl (isT rfl c21) (Le.refl _) ⟨pure _, rfl⟩ (fun _ hw_ _ hN => O.mv (O.nil hN)) (D.ty 10 rfl rfl rfl rfl (isT rfl c21) (Le.refl _) ⟨pure _, rfl⟩ (fun _ hw_ _ hN => O.mv (O.nil hN)) (D.ty 11 rfl rfl rfl rfl (isT rfl c21) (Le.refl _) ⟨_, rfl⟩ (fun _ hw_ _ hN => O.sb s9_2 rfl (O.nil hN)) ?_))))
   obtain ⟨a30, h30, hr30⟩ := Sl.at (i := ((a + (t - 1) : Nat) : Int)) (P := Tryz.prog) underlying43 sizeOf3 rfl (r0_2s.keep e3) (by omega)
   refine D.ty 12 rfl rfl rfl rfl (isT rfl c21) (Le.refl _) ⟨_, rfl⟩ (fun _ hw_ _ hN => O.idxR (Eq.trans s0_2 s0_1) (Eq.trans rfl (i64_eq (show ((a + t : Nat) : Int) - 1 = ((a + (t - 1) : Nat) : Int) by omega))) hr30 (O.nil hN)) (D.ty 13 rfl rfl rfl rfl (isT rfl c21) (Le.refl _) ⟨_, rfl⟩ (fun _ hw_ _ hN => O.load1F (G := Dt.intF) isAgg3 rfl rfl rfl (h30.keep hw_) (O.nil hN)) (D.oneYes (i := 14) rfl rfl (isT rfl c21) (by kernel_rfl) ?_))
   refine O.callV (vs := [.int .i64 (x), .int .i64 (E.getD (t - 1) 0)]) call48 (Eq.trans s3_2 s3_1) (args2 (Eq.trans (Eq.trans rfl (Ss.gdv _ _)) (congrArg (Value.int .i64) (Ss.insW_at (show t ≤ E.length by omega) (by omega)))) (Eq.trans (Eq.trans rfl (Ss.gdv _ _)) (congrArg (Value.int .i64) (Ss.insW_left2 (show 0 < t by omega) (show t ≤ E.length by omega) (by omega))))) (cmpS_spec c v0 l F (x) (E.getD (t - 1) 0) _ ((ho.keepM e_2 (fun h9 => hcg h9)).keep e3) ((hlf.keepM e_2 (fun k9 hk9 h9 => hFg ((show k9 = g from h9) ▸ hk9))).keep e3) hxz (hEz _ (Ss.getD_mem (by omega)))) ?_
   rintro v_32 w4 ⟨zv32, rfl, hzv32, e4⟩
   have z4 := e4.size
   refine O.nil ⟨e4, D.ty 15 rfl rfl rfl rfl (isT rfl c21) e4 ⟨_, rfl⟩ (fun _ hw_ _ hN => O.lssI rfl rfl (O.nil hN)) (D.tk 16 rfl rfl rfl rfl e4 pick_form (fun _ hw_ _ hN => O.pickT (isT rfl c21) (O.nil hN)) (K10 (C.condD rfl (fun c34 => ?_) (fun c34 => ?_))))⟩
   ·
    have hlt : Ds.kx l (E.getD (t - 1) 0) < Ds.kx l x := hzv32.1 c34
    refine C.skip (K9 (C.sq fun K11 => C.bl fun K12 => C.drawM (fun j => j = g) (by kernel_rfl) fun w5 e5 => ?_))
    have z5 := e5.size
    refine DM.take (i := 0) rfl rfl rfl rfl (by kernel_rfl) (Ext.refl _ _) ⟨pure _, rfl⟩ (fun _ hw_ _ hN => O.mv (O.nil hN)) (DM.take (i := 1) rfl rfl rfl rfl (by kernel_rfl) (Ext.refl _ _) ⟨pure _, rfl⟩ (fun _ hw_ _ hN => O.mv (O.nil hN)) (DM.take (i := 2) rfl rfl rfl rfl (by kernel_rfl) (Ext.refl _ _) ⟨pure _, rfl⟩ (fun _ hw_ _ hN => O.mv (O.nil hN)) (DM.take (i := 3) rfl rfl rfl rfl (by kernel_rfl) (Ext.refl _ _) ⟨pure _, rfl⟩ (fun _ hw_ _ hN => O.mv (O.nil hN)) (DM.take (i := 4) rfl rfl rfl rfl (by kernel_rfl) (Ext.refl _ _) ⟨_, rfl⟩ (fun _ hw_ _ hN => O.sb s9_2 rfl (O.nil hN)) ?_))))
    refine DM.take (i := 5) rfl rfl rfl rfl (by kernel_rfl) (Ext.refl _ _) ⟨pure _, rfl⟩ (fun _ hw_ _ hN => O.mv (O.nil hN)) (DM.take (i := 6) rfl rfl rfl rfl (by kernel_rfl) (Ext.refl _ _) ⟨pure _, rfl⟩ (fun _ hw_ _ hN => O.mv (O.nil hN)) (DM.take (i := 7) rfl rfl rfl rfl (by kernel_rfl) (Ext.refl _ _) ⟨_, rfl⟩ (fun _ hw_ _ hN => O.sb s9_2 rfl (O.nil hN)) ?_))
    have t0 := (r0_2.keep e3).keep e4
    obtain ⟨g45, cap45, hv45⟩ := OwnF.ptr (t0.keep e5) (by omega)
    have ho45 := (t0.keep e5)
    rw [hv45] at ho45
    refine DM.take (i := 8) rfl rfl rfl rfl (by kernel_rfl) (Ext.refl _ _) ⟨_, rfl⟩ (fun _ hw_ _ hN => O.idxO underlying43 sizeOf3 (Eq.trans (Eq.trans s0_2 s0_1) hv45) (Eq.trans rfl (i64_eq (show ((a + t : Nat) : Int) - 1 = ((a + (t - 1) : Nat) : Int) by omega))) (by omega) (O.nil hN)) (DM.take (i := 10) rfl rfl rfl rfl (by kernel_rfl) (Ext.refl _ _) ⟨pure _, rfl⟩ (fun _ hw_ _ hN => O.mv (O.nil hN)) (DM.take (i := 11) rfl rfl rfl rfl (by kernel_rfl) (Ext.refl _ _) ⟨pure _, rfl⟩ (fun _ hw_ _ hN => O.mv (O.nil hN)) ?_))
    obtain ⟨g49, cap49, hv49⟩ := OwnF.ptr (t0.keep e5) (by omega)
    have ho49 := (t0.keep e5)
    rw [hv49] at ho49
    refine DM.take (i := 12) rfl rfl rfl rfl (by kernel_rfl) (Ext.refl _ _) ⟨_, rfl⟩ (fun _ hw_ _ hN => O.idxO underlying43 sizeOf3 (Eq.trans (Eq.trans s0_2 s0_1) hv49) s9_2 (by omega) (O.nil hN)) (DM.many [9, 13] (by kernel_rfl) (by decide) ⟨?_, ?_, trivial⟩)
    ·
     refine DM.stepU rfl rfl (O.loadC (G := Dt.intF) (i := a + (t - 1)) (off := 0) (by simp [Dt.intF]; omega) isAgg3 rfl ho45 (by omega) rfl (O.nil ⟨(Ext.refl _ _), DM.one (i := 13) rfl rfl (by kernel_rfl) (O.loadC (G := Dt.intF) (i := a + t) (off := 0) (by simp [Dt.intF]; omega) isAgg3 rfl ho49 (by omega) rfl (O.nil ⟨(Ext.refl _ _), ?_⟩))⟩))
     obtain ⟨g51, cap51, hv51⟩ := OwnF.ptr (t0.keep e5) (by omega)
     have ho51 := (t0.keep e5)
     rw [hv51] at ho51
     refine DM.take (i := 14) rfl rfl rfl rfl (by kernel_rfl) (Ext.refl _ _) ⟨_, rfl⟩ (fun _ hw_ _ hN => O.idxO underlying43 sizeOf3 (Eq.trans (Eq.trans s0_2 s0_1) hv51) s9_2 (by omega) (O.nil hN)) (DM.one (i := 15) rfl rfl (by kernel_rfl) (O.storeF (G := Dt.intF) ((Ss.insW P E x t R).getD (a + (t - 1)) 0) sizeOf3 rfl (fun _ => rfl) rfl rfl (Eq.trans rfl (Ss.gdv _ _)) ho51 (by omega) (fun w6 hs6 e6 z6 => ?_)))
     rw [← hv51] at hs6
     replace e6 : Ext (fun j => j = g) w5 w6 := e6.mono (fun k _ hk => by have h9 := (Value.slice.inj hv51).1; cases h9; exact hk)
     simp only [Int.toNat_natCast, Nat.zero_add, Nat.mul_one] at hs6
     refine O.nil ⟨(Ext.new (Ext.refl _ _) e6 (by intro i9 _ h9; exact h9)), ?_⟩
     obtain ⟨g52, cap52, hv52⟩ := OwnF.ptr hs6 (by simp only [List.length_set]; omega)
     have ho52 := hs6
     rw [hv52] at ho52
     refine DM.take (i := 16) rfl rfl rfl rfl (by kernel_rfl) (Ext.new (Ext.refl _ _) e6 (by intro i9 _ h9; exact h9)) ⟨_, rfl⟩ (fun _ hw_ _ hN => O.idxO underlying43 sizeOf3 (Eq.trans (Eq.trans s0_2 s0_1) hv52) (Eq.trans rfl (i64_eq (show ((a + t : Nat) : Int) - 1 = ((a + (t - 1) : Nat) : Int) by omega))) (by simp only [List.length_set]; omega) (O.nil hN)) (DM.one (i := 17) rfl rfl (by kernel_rfl) (O.storeF (G := Dt.intF) ((Ss.insW P E x t R).getD (a + t) 0) sizeOf3 rfl (fun _ => rfl) rfl rfl (Eq.trans rfl (Ss.gdv _ _)) ho52 (by simp only [List.length_set]; omega) (fun w7 hs7 e7 z7 => ?_)))
     rw [← hv52] at hs7
     replace e7 : Ext (fun j => j = g) w6 w7 := e7.mono (fun k _ hk => by have h9 := (Value.slice.inj hv52).1; cases h9; exact hk)
     simp only [Int.toNat_natCast, Nat.zero_add, Nat.mul_one] at hs7
     refine O.nil ⟨(Ext.new (Ext.new (Ext.refl _ _) e6 (by intro i9 _ h9; exact h9)) e7 (by intro i9 _ h9; exact h9)), DM.done (by kernel_rfl) (K12 (K11 (C.region (O.mv (O.sb s9_2 rfl (O.asg (O.nil (⟨t - 1, ⟨(Eq.trans rfl (i64_eq (show ((a + t : Nat) : Int) - 1 = ((a + (t - 1) : Nat) : Int) by omega))), s0_2, s1_2, s2_2, s3_2, s8_2, (Ext.nw (Ext.nw (Ext.nw (Ext.nw (Ext.nw (Ext.nw (Ext.refl _ _) e_2) e3) e4) e5) e6) e7), (by rw [← Ss.insW_down2 (P := P) (D := E) (x := x) (R := R) (t := t) (i := a + t) (j := a + (t - 1)) (by omega) (by omega) (by omega) (by omega)]; exact hs7), ?_⟩, by first | omega | (simp only []; omega)⟩))))))))⟩
     exact ⟨by omega, Ss.all_drop (t := t - 1) (by omega) (.inl hlt) (by rw [show t - 1 + 1 = t by omega]; exact hab)⟩
    refine DM.stepU rfl rfl (O.loadC (G := Dt.intF) (i := a + t) (off := 0) (by simp [Dt.intF]; omega) isAgg3 rfl ho49 (by omega) rfl (O.nil ⟨(Ext.refl _ _), DM.one (i := 9) rfl rfl (by kernel_rfl) (O.loadC (G := Dt.intF) (i := a + (t - 1)) (off := 0) (by simp [Dt.intF]; omega) isAgg3 rfl ho45 (by omega) rfl (O.nil ⟨(Ext.refl _ _), ?_⟩))⟩))
    obtain ⟨g51, cap51, hv51⟩ := OwnF.ptr (t0.keep e5) (by omega)
    have ho51 := (t0.keep e5)
    rw [hv51] at ho51
    refine DM.take (i := 14) rfl rfl rfl rfl (by kernel_rfl) (Ext.refl _ _) ⟨_, rfl⟩ (fun _ hw_ _ hN => O.idxO underlying43 sizeOf3 (Eq.trans (Eq.trans s0_2 s0_1) hv51) s9_2 (by omega) (O.nil hN)) (DM.one (i := 15) rfl rfl (by kernel_rfl) (O.storeF (G := Dt.intF) ((Ss.insW P E x t R).getD (a + (t - 1)) 0) sizeOf3 rfl (fun _ => rfl) rfl rfl (Eq.trans rfl (Ss.gdv _ _)) ho51 (by omega) (fun w8 hs8 e8 z8 => ?_)))
    rw [← hv51] at hs8
    replace e8 : Ext (fun j => j = g) w5 w8 := e8.mono (fun k _ hk => by have h9 := (Value.slice.inj hv51).1; cases h9; exact hk)
    simp only [Int.toNat_natCast, Nat.zero_add, Nat.mul_one] at hs8
    refine O.nil ⟨(Ext.new (Ext.refl _ _) e8 (by intro i9 _ h9; exact h9)), ?_⟩
    obtain ⟨g52, cap52, hv52⟩ := OwnF.ptr hs8 (by simp only [List.length_set]; omega)
    have ho52 := hs8
    rw [hv52] at ho52
    refine DM.take (i := 16) rfl rfl rfl rfl (by kernel_rfl) (Ext.new (Ext.refl _ _) e8 (by intro i9 _ h9; exact h9)) ⟨_, rfl⟩ (fun _ hw_ _ hN => O.idxO underlying43 sizeOf3 (Eq.trans (Eq.trans s0_2 s0_1) hv52) (Eq.trans rfl (i64_eq (show ((a + t : Nat) : Int) - 1 = ((a + (t - 1) : Nat) : Int) by omega))) (by simp only [List.length_set]; omega) (O.nil hN)) (DM.one (i := 17) rfl rfl (by kernel_rfl) (O.storeF (G := Dt.intF) ((Ss.insW P E x t R).getD (a + t) 0) sizeOf3 rfl (fun _ => rfl) rfl rfl (Eq.trans rfl (Ss.gdv _ _)) ho52 (by simp only [List.length_set]; omega) (fun w9 hs9 e9 z9 => ?_)))
    rw [← hv52] at hs9
    replace e9 : Ext (fun j => j = g) w8 w9 := e9.mono (fun k _ hk => by have h9 := (Value.slice.inj hv52).1; cases h9; exact hk)
    simp only [Int.toNat_natCast, Nat.zero_add, Nat.mul_one] at hs9
    refine O.nil ⟨(Ext.new (Ext.new (Ext.refl _ _) e8 (by intro i9 _ h9; exact h9)) e9 (by intro i9 _ h9; exact h9)), DM.done (by kernel_rfl) (K12 (K11 (C.region (O.mv (O.sb s9_2 rfl (O.asg (O.nil (⟨t - 1, ⟨(Eq.trans rfl (i64_eq (show ((a + t : Nat) : Int) - 1 = ((a + (t - 1) : Nat) : Int) by omega))), s0_2, s1_2, s2_2, s3_2, s8_2, (Ext.nw (Ext.nw (Ext.nw (Ext.nw (Ext.nw (Ext.nw (Ext.refl _ _) e_2) e3) e4) e5) e8) e9), (by rw [← Ss.insW_down2 (P := P) (D := E) (x := x) (R := R) (t := t) (i := a + t) (j := a + (t - 1)) (by omega) (by omega) (by omega) (by omega)]; exact hs9), ?_⟩, by first | omega | (simp only []; omega)⟩))))))))⟩
    exact ⟨by omega, Ss.all_drop (t := t - 1) (by omega) (.inl hlt) (by rw [show t - 1 + 1 = t by omega]; exact hab)⟩
   have hbd : t = 0 ∨ Ss.L (Ds.kx l) (E.getD (t - 1) 0) x := .inr (Ss.L.not (by rw [hx]; exact Ss.ins_lt hA hp hd (Ss.getD_mem (by omega))) (fun h9 => c34 (hzv32.2 h9)))
   refine C.exit (K8 (K6 (K5 (C.region (O.mv (O.ad (Eq.trans s8_2 s8_1) rfl (O.asg (O.nil (⟨(d + 1, E.take t ++ x :: E.drop t), ⟨(Eq.trans rfl (i64_eq (show ((a + d : Nat) : Int) + 1 = ((a + (d + 1) : Nat) : Int) by omega))), (Eq.trans s0_2 s0_1), (Eq.trans s1_2 s1_1), (Eq.trans s2_2 s2_1), (Eq.trans s3_2 s3_1), (Ext.nw (Ext.nw (Ext.nw (Ext.refl _ _) e_2) e3) e4), (by rw [← hR, ← Ss.insW_eq]; exact ((r0_2.keep e3).keep e4)), ?_⟩, by first | omega | (simp only []; omega)⟩)))))))))
   exact ⟨by rw [hx]; exact Ss.ins_perm hp hd, Ss.put_asc hasc (Ss.below_take hasc (by omega) hbd) hab, by omega, by omega⟩
  have hbd : t = 0 ∨ Ss.L (Ds.kx l) (E.getD (t - 1) 0) x := .inl (by omega)
  refine D.tn 4 rfl rfl (Le.refl _) rfl (noB (isF rfl c21) rfl) (D.tn 5 rfl rfl (Le.refl _) rfl (noB (isF rfl c21) rfl) (D.tn 6 rfl rfl (Le.refl _) rfl (noB (isF rfl c21) rfl) (D.tn 7 rfl rfl (Le.refl _) rfl (noB (isF rfl c21) rfl) (D.tn 8 rfl rfl (Le.refl _) rfl (noB (isF rfl c21) rfl) (D.tn 9 rfl rfl (Le.refl _) rfl (noB (isF rfl c21) rfl) (D.tn 10 rfl rfl (Le.refl _) rfl (noB (isF rfl c21) rfl) (D.tn 11 rfl rfl (Le.refl _) rfl (noB (isF rfl c21) rfl) (D.tn 12 rfl rfl (Le.refl _) rfl (noB (isF rfl c21) rfl) (D.tn 13 rfl rfl (Le.refl _) rfl (noB (isF rfl c21) rfl) (D.tn 14 rfl rfl (Le.refl _) rfl (noB (isF rfl c21) rfl) ?_))))))))))
  refine D.tn 15 rfl rfl (Le.refl _) rfl (noB (isF rfl c21) rfl) (D.tk 16 rfl rfl rfl rfl (Le.refl _) pick_form (fun _ hw_ _ hN => O.pickF (isF rfl c21) (O.nil hN)) (K10 (C.condF rfl (C.exit (K8 (K6 (K5 (C.region (O.mv (O.ad (Eq.trans s8_2 s8_1) rfl (O.asg (O.nil (⟨(d + 1, E.take t ++ x :: E.drop t), ⟨(Eq.trans rfl (i64_eq (show ((a + d : Nat) : Int) + 1 = ((a + (d + 1) : Nat) : Int) by omega))), (Eq.trans s0_2 s0_1), (Eq.trans s1_2 s1_1), (Eq.trans s2_2 s2_1), (Eq.trans s3_2 s3_1), (Ext.nw (Ext.nw (Ext.refl _ _) e_2) e3), (by rw [← hR, ← Ss.insW_eq]; exact (r0_2.keep e3)), ?_⟩, by first | omega | (simp only []; omega)⟩)))))))))))))
  exact ⟨by rw [hx]; exact Ss.ins_perm hp hd, Ss.put_asc hasc (Ss.below_take hasc (by omega) hbd) hab, by omega, by omega⟩
 have h0y : OwnF Dt.intF 3 B w1 (.slice (some ⟨g, 0, none⟩) n cap) (P ++ (E ++ T0)) := by
  have q := r0_1
  rw [List.drop_of_length_le (by omega), List.nil_append] at q
  exact q
 have hpA : E.Perm A := by
  rw [List.take_of_length_le (by omega)] at hp
  exact hp
 refine C.exit (K2 (Outs.none rfl ?_))
 exact ⟨rfl, ⟨E, hasc, hpA, h0y⟩, (Ext.nw (Ext.refl _ _) e_1)⟩
end Go.Proofs.YtbadfphdniliaaaGreatDoor
end
section
namespace Go.Proofs.YtbadfphdniliaaaGreatDoor
open Go.Pn Go.RowKit Go.Proofs _root_.Go.Proofs.Tryz
attribute [local irreducible] O C D
set_option maxHeartbeats 4000000 in
theorem symS_spec (g n cap a m b B z : Nat) (P A Y T0 : List Int) (c : Nat) (v0 : Value) (l : List (BitVec 64)) (F : Nat → Prop) (w : World) (h : OwnF Dt.intF 3 B w (.slice (some ⟨g, 0, none⟩) n cap) (P ++ (A ++ (Y ++ T0)))) (ho : Own w c 37 [v0]) (hlf : Sl flE w F v0 l) (hcg : c ≠ g) (hFg : ¬ F g) (hl : P.length + A.length + Y.length + T0.length = n) (ha : a = P.length) (hm : m = a + A.length) (hb : b = m + Y.length) (hA : 0 < A.length) (hY : 0 < Y.length) (hM : Ss.Mg (Ds.kx l) l.length A Y) (hn : n ≤ 1000000) (hzz : A.length + Y.length = z) (ih : ∀ (a m b : Nat) (P A Y T0 : List Int) (w : World), A.length + Y.length < z → OwnF Dt.intF 3 B w (.slice (some ⟨g, 0, none⟩) n cap) (P ++ (A ++ (Y ++ T0))) → Own w c 37 [v0] → Sl flE w F v0 l → P.length + A.length + Y.length + T0.length = n → a = P.length → m = a + A.length → b = m + Y.length → 0 < A.length → 0 < Y.length → Ss.Mg (Ds.kx l) l.length A Y → Ret Tryz.prog 76 #[.slice (some ⟨g, 0, none⟩) n cap, .int .i64 (a : Int), .int .i64 (m : Int), .int .i64 (b : Int), .func (.func 48) #[] #[.pointer (some ⟨c, 0, none⟩)]] w (fun v w' => v = .tuple #[] ∧ (∃ M, Ss.Mgd (Ds.kx l) A Y M ∧ OwnF Dt.intF 3 B w' (.slice (some ⟨g, 0, none⟩) n cap) (P ++ (M ++ T0))) ∧ Ext (fun j => j = g) w w')) :
 Ret Tryz.prog 76 #[.slice (some ⟨g, 0, none⟩) n cap, .int .i64 ((a : Int)), .int .i64 ((m : Int)), .int .i64 ((b : Int)), .func (.func 48) #[] #[.pointer (some ⟨c, 0, none⟩)]] w (fun v w' => v = .tuple #[] ∧ (∃ M, Ss.Mgd (Ds.kx l) A Y M ∧ OwnF Dt.intF 3 B w' (.slice (some ⟨g, 0, none⟩) n cap) (P ++ (M ++ T0))) ∧ Ext (fun j => j = g) w w') := by
 have hcl : (P ++ (A ++ (Y ++ T0))).length = n := by simp only [List.length_append]; omega
 refine enT [.slice (some ⟨g, 0, none⟩) n cap, .int .i64 ((a : Int)), .int .i64 ((m : Int)), .int .i64 ((b : Int)), .func (.func 48) #[] #[.pointer (some ⟨c, 0, none⟩)]] 220 func76 rfl rfl (C.sq fun K1 => C.sr fun K2 => O.mv (O.mv (O.sb rfl rfl (O.eqlI (Eq.trans rfl (i64_eq (show (m : Int) - (a : Int) = ((A.length : Nat) : Int) by omega))) rfl (K2 (C.condD rfl (fun c28 => ?_) (fun c28 => ?_)))))))
 ·
  have hA1 : A.length = 1 := by omega
  obtain ⟨x, hx⟩ : ∃ x, x = A.getD 0 0 := ⟨_, rfl⟩
  have hA9 : A = [x] := by rw [hx]; exact Ss.one_of hA1
  have hxz : 0 ≤ x ∧ x < (l.length : Int) := hx ▸ hM.ia _ (Ss.getD_mem (by omega))
  refine C.sr fun K3 => O.mv (O.asg (K3 (C.sr fun K4 => O.mv (O.asg (K4 (C.sq fun K5 => C.bl fun K6 => C.loop0 (σ := Nat × Nat) (fun f0 w0 ⟨s, t⟩ f wz => f 10 = .int .i64 (((m + s : Nat) : Int)) ∧ f 11 = .int .i64 (((m + t : Nat) : Int)) ∧ f 0 = f0 0 ∧ f 1 = f0 1 ∧ f 2 = f0 2 ∧ f 3 = f0 3 ∧ f 4 = f0 4 ∧ Le w wz ∧ OwnF Dt.intF 3 B wz (.slice (some ⟨g, 0, none⟩) n cap) (P ++ (A ++ (Y ++ T0))) ∧ s ≤ t ∧ t ≤ Y.length ∧ (s = 0 ∨ Ss.L (Ds.kx l) (Y.getD (s - 1) 0) x) ∧ (t = Y.length ∨ Ss.L (Ds.kx l) x (Y.getD t 0))) (fun ⟨s, t⟩ => t - s) (0, Y.length) ?_ ?_))))))
  ·
   refine ⟨(Eq.trans rfl (i64_eq (by omega))), (Eq.trans rfl (i64_eq (by omega))), rfl, rfl, rfl, rfl, rfl, (Le.refl _), h, ?_⟩
   exact ⟨Nat.zero_le _, Nat.le_refl _, .inl rfl, .inl rfl⟩
  rintro ⟨s, t⟩ f_1 w1 ⟨s10_1, s11_1, s0_1, s1_1, s2_1, s3_1, s4_1, e_1, r0_1, ⟨h1, h2, h3, h4⟩⟩
  have z_1 := e_1.size
  have r0_1s := r0_1.sl
  refine C.sq fun K7 => C.sr fun K8 => O.mv (O.mv (O.lssI s10_1 s11_1 (K8 (C.condD rfl (fun c33 => ?_) (fun c33 => ?_)))))
  ·
   refine C.skip (K7 (C.bl fun K9 => C.sr fun K10 => O.mv (O.mv (O.ad s10_1 s11_1 (O.convIU (m' := 64) underlying3 underlying88 rfl rfl rfl (O.shrU (m := 64) (c := 1) rfl rfl rfl rfl (O.convU64I underlying88 underlying3 rfl ?_)))))))
   obtain ⟨u, hu⟩ : ∃ u, u = (s + t) / 2 := ⟨_, rfl⟩
   have hsu : s ≤ u ∧ u < t := by omega
   refine O.cast (v' := .int .i64 ((m + u : Nat) : Int)) (congrArg (Value.int .i64) ((Ss.half64 (by omega) (by omega)).trans (by omega))) (O.asg (K10 (C.sd fun K11 w2 e2 z2 => D.mv 0 rfl (Le.refl _) (D.mv 1 rfl (Le.refl _) (D.mv 2 rfl (Le.refl _) ?_)))))
   obtain ⟨a43, h43, hr43⟩ := Sl.at (i := ((m + u : Nat) : Int)) (P := Tryz.prog) underlying43 sizeOf3 rfl (r0_1s.keep e2) (by omega)
   refine D.t 3 rfl (Le.refl _) (fun _ _ _ hN => O.idxR s0_1 rfl hr43 (O.nil hN)) (D.t 4 rfl (Le.refl _) (fun _ hw_ _ hN => O.load1F (G := Dt.intF) isAgg3 rfl rfl rfl (h43.keep hw_) (O.nil hN)) (D.mv 5 rfl (Le.refl _) (D.mv 6 rfl (Le.refl _) ?_)))
   obtain ⟨a47, h47, hr47⟩ := Sl.at (i := (a : Int)) (P := Tryz.prog) underlying43 sizeOf3 rfl (r0_1s.keep e2) (by omega)
   refine D.t 7 rfl (Le.refl _) (fun _ _ _ hN => O.idxR s0_1 s1_1 hr47 (O.nil hN)) (D.t 8 rfl (Le.refl _) (fun _ hw_ _ hN => O.load1F (G := Dt.intF) isAgg3 rfl rfl rfl (h47.keep hw_) (O.nil hN)) (D.on 9 rfl rfl ?_))
   refine O.callV (vs := [.int .i64 (Y.getD u 0), .int .i64 (x)]) call48 s4_1 (args2 (Eq.trans (Eq.trans rfl (Ss.gdv _ _)) (congrArg (Value.int .i64) (Ss.app_right (show u < Y.length by omega) (by omega)))) (Eq.trans (Eq.trans rfl (Ss.gdv _ _)) (congrArg (Value.int .i64) ((Ss.app_left (show 0 < A.length by omega) (by omega)).trans hx.symm)))) (cmpS_spec c v0 l F (Y.getD u 0) (x) _ ((ho.keep e_1).keep e2) ((hlf.keep e_1).keep e2) (hM.ic _ (Ss.getD_mem (by omega))) hxz) ?_
   rintro v_49 w3 ⟨zv49, rfl, hzv49, e3⟩
   have z3 := e3.size
   refine O.nil ⟨e3, D.t 10 rfl e3 (fun _ _ _ hN => O.lssI rfl rfl (O.nil hN)) (K11 (C.condD rfl (fun c50 => ?_) (fun c50 => ?_)))⟩
   ·
    have hL : Ss.L (Ds.kx l) (Y.getD u 0) x := .inl (hzv49.1 c50)
    have hk9 : (u + 1) ≤ t ∧ t ≤ Y.length ∧ ((u + 1) = 0 ∨ Ss.L (Ds.kx l) (Y.getD ((u + 1) - 1) 0) x) ∧ (t = Y.length ∨ Ss.L (Ds.kx l) x (Y.getD t 0)) := ⟨by omega, by omega, .inr hL, h4⟩
    refine C.region (O.mv (O.ad rfl rfl (O.asg (O.nil (K9 (⟨(u + 1, t), ⟨(Eq.trans rfl (i64_eq (show ((m + u : Nat) : Int) + 1 = ((m + (u + 1) : Nat) : Int) by omega))), s11_1, s0_1, s1_1, s2_1, s3_1, s4_1, (Ext.trans (Ext.trans e_1 e2) e3), ((r0_1.keep e2).keep e3), ?_⟩, by first | omega | (simp only []; omega)⟩))))))
    exact hk9
   have hL : Ss.L (Ds.kx l) x (Y.getD u 0) := Ss.L.not (hM.lt _ (by rw [hA9]; exact List.mem_singleton_self _) _ (Ss.getD_mem (by omega))) (fun h9 => c50 (hzv49.2 h9))
   have hk9 : s ≤ u ∧ u ≤ Y.length ∧ (s = 0 ∨ Ss.L (Ds.kx l) (Y.getD (s - 1) 0) x) ∧ (u = Y.length ∨ Ss.L (Ds.kx l) x (Y.getD u 0)) := ⟨by omega, by omega, h3, .inr hL⟩
   refine C.region (O.mv (O.asg (O.nil (K9 (⟨(s, u), ⟨s10_1, rfl, s0_1, s1_1, s2_1, s3_1, s4_1, (Ext.trans (Ext.trans e_1 e2) e3), ((r0_1.keep e2).keep e3), ?_⟩, by first | omega | (simp only []; omega)⟩)))))
   exact hk9
  have hst : s = t := by omega
  rw [← hst] at h4
  have h0x : OwnF Dt.intF 3 B w1 (.slice (some ⟨g, 0, none⟩) n cap) (Ss.insW P Y x 0 T0) := by
   have q := r0_1
   rw [hA9] at q
   exact q
  have hmg : Ss.Mgd (Ds.kx l) A Y (Y.take s ++ x :: Y.drop s) := by
   rw [hA9] at hM ⊢
   exact hM.one_left (by omega) h3 h4
  refine C.exit (K6 (K5 (C.sq fun K12 => C.sr fun K13 => O.mv (O.asg (K13 (C.bl fun K14 => C.loop0 (σ := Nat) (fun f0 w0 q f wz => f 13 = .int .i64 (((a + q : Nat) : Int)) ∧ f 0 = f0 0 ∧ f 1 = f0 1 ∧ f 2 = f0 2 ∧ f 3 = f0 3 ∧ f 4 = f0 4 ∧ f 10 = f0 10 ∧ Ext (fun j => j = g) w wz ∧ OwnF Dt.intF 3 B wz (.slice (some ⟨g, 0, none⟩) n cap) (Ss.insW P Y x q T0) ∧ q ≤ s) (fun q => s - q) 0 ?_ ?_))))))
  ·
   refine ⟨(Eq.trans s1_1 (i64_eq (by omega))), rfl, rfl, rfl, rfl, rfl, rfl, (Ext.nw (Ext.refl _ _) e_1), h0x, ?_⟩
   exact Nat.zero_le _
  rintro q f_2 w4 ⟨s13_2, s0_2, s1_2, s2_2, s3_2, s4_2, s10_2, e_2, r0_2, hq⟩
  have z_2 := e_2.size
  have r0_2s := r0_2.sl
  have hwl := Ss.insW_length P Y x q T0
  refine C.sq fun K15 => C.sr fun K16 => O.mv (O.mv (O.sb (Eq.trans s10_2 s10_1) rfl (O.lssI s13_2 (Eq.trans rfl (i64_eq (show ((m + s : Nat) : Int) - 1 = ((a + s : Nat) : Int) by omega))) (K16 (C.condD rfl (fun c58 => ?_) (fun c58 => ?_))))))
  ·
   refine C.skip (K15 (C.sq fun K17 => C.bl fun K18 => C.drawM (fun j => j = g) (by kernel_rfl) fun w5 e5 => ?_))
   have z5 := e5.size
   refine DM.take (i := 0) rfl rfl rfl rfl (by kernel_rfl) (Ext.refl _ _) ⟨pure _, rfl⟩ (fun _ hw_ _ hN => O.mv (O.nil hN)) (DM.take (i := 1) rfl rfl rfl rfl (by kernel_rfl) (Ext.refl _ _) ⟨pure _, rfl⟩ (fun _ hw_ _ hN => O.mv (O.nil hN)) (DM.take (i := 2) rfl rfl rfl rfl (by kernel_rfl) (Ext.refl _ _) ⟨pure _, rfl⟩ (fun _ hw_ _ hN => O.mv (O.nil hN)) (DM.take (i := 3) rfl rfl rfl rfl (by kernel_rfl) (Ext.refl _ _) ⟨pure _, rfl⟩ (fun _ hw_ _ hN => O.mv (O.nil hN)) (DM.take (i := 4) rfl rfl rfl rfl (by kernel_rfl) (Ext.refl _ _) ⟨_, rfl⟩ (fun _ hw_ _ hN => O.ad s13_2 rfl (O.nil hN)) ?_))))
   refine DM.take (i := 5) rfl rfl rfl rfl (by kernel_rfl) (Ext.refl _ _) ⟨pure _, rfl⟩ (fun _ hw_ _ hN => O.mv (O.nil hN)) (DM.take (i := 6) rfl rfl rfl rfl (by kernel_rfl) (Ext.refl _ _) ⟨pure _, rfl⟩ (fun _ hw_ _ hN => O.mv (O.nil hN)) (DM.take (i := 7) rfl rfl rfl rfl (by kernel_rfl) (Ext.refl _ _) ⟨_, rfl⟩ (fun _ hw_ _ hN => O.ad s13_2 rfl (O.nil hN)) ?_))
   obtain ⟨g69, cap69, hv69⟩ := OwnF.ptr (r0_2.keep e5) (by omega)
   have ho69 := (r0_2.keep e5)
   rw [hv69] at ho69
   refine DM.take (i := 8) rfl rfl rfl rfl (by kernel_rfl) (Ext.refl _ _) ⟨_, rfl⟩ (fun _ hw_ _ hN => O.idxO underlying43 sizeOf3 (Eq.trans (Eq.trans s0_2 s0_1) hv69) (Eq.trans rfl (i64_eq (show ((a + q : Nat) : Int) + 1 = ((a + (q + 1) : Nat) : Int) by omega))) (by omega) (O.nil hN)) (DM.take (i := 10) rfl rfl rfl rfl (by kernel_rfl) (Ext.refl _ _) ⟨pure _, rfl⟩ (fun _ hw_ _ hN => O.mv (O.nil hN)) (DM.take (i := 11) rfl rfl rfl rfl (by kernel_rfl) (Ext.refl _ _) ⟨pure _, rfl⟩ (fun _ hw_ _ hN => O.mv (O.nil hN)) ?_))
   obtain ⟨g73, cap73, hv73⟩ := OwnF.ptr (r0_2.keep e5) (by omega)
   have ho73 := (r0_2.keep e5)
   rw [hv73] at ho73
   refine DM.take (i := 12) rfl rfl rfl rfl (by kernel_rfl) (Ext.refl _ _) ⟨_, rfl⟩ (fun _ hw_ _ hN => O.idxO underlying43 sizeOf3 (Eq.trans (Eq.trans s0_2 s0_1) hv73) s13_2 (by omega) (O.nil hN)) (DM.many [9, 13] (by kernel_rfl) (by decide) ⟨?_, ?_, trivial⟩)
   ·
    refine DM.stepU rfl rfl (O.loadC (G := Dt.intF) (i := a + (q + 1)) (off := 0) (by simp [Dt.intF]; omega) isAgg3 rfl ho69 (by omega) rfl (O.nil ⟨(Ext.refl _ _), DM.one (i := 13) rfl rfl (by kernel_rfl) (O.loadC (G := Dt.intF) (i := a + q) (off := 0) (by simp [Dt.intF]; omega) isAgg3 rfl ho73 (by omega) rfl (O.nil ⟨(Ext.refl _ _), ?_⟩))⟩))
    obtain ⟨g75, cap75, hv75⟩ := OwnF.ptr (r0_2.keep e5) (by omega)
    have ho75 := (r0_2.keep e5)
    rw [hv75] at ho75
    refine DM.take (i := 14) rfl rfl rfl rfl (by kernel_rfl) (Ext.refl _ _) ⟨_, rfl⟩ (fun _ hw_ _ hN => O.idxO underlying43 sizeOf3 (Eq.trans (Eq.trans s0_2 s0_1) hv75) s13_2 (by omega) (O.nil hN)) (DM.one (i := 15) rfl rfl (by kernel_rfl) (O.storeF (G := Dt.intF) ((Ss.insW P Y x q T0).getD (a + (q + 1)) 0) sizeOf3 rfl (fun _ => rfl) rfl rfl (Eq.trans rfl (Ss.gdv _ _)) ho75 (by omega) (fun w6 hs6 e6 z6 => ?_)))
    rw [← hv75] at hs6
    replace e6 : Ext (fun j => j = g) w5 w6 := e6.mono (fun k _ hk => by have h9 := (Value.slice.inj hv75).1; cases h9; exact hk)
    simp only [Int.toNat_natCast, Nat.zero_add, Nat.mul_one] at hs6
    refine O.nil ⟨(Ext.new (Ext.refl _ _) e6 (by intro i9 _ h9; exact h9)), ?_⟩
    obtain ⟨g76, cap76, hv76⟩ := OwnF.ptr hs6 (by simp only [List.length_set]; omega)
    have ho76 := hs6
    rw [hv76] at ho76
    refine DM.take (i := 16) rfl rfl rfl rfl (by kernel_rfl) (Ext.new (Ext.refl _ _) e6 (by intro i9 _ h9; exact h9)) ⟨_, rfl⟩ (fun _ hw_ _ hN => O.idxO underlying43 sizeOf3 (Eq.trans (Eq.trans s0_2 s0_1) hv76) (Eq.trans rfl (i64_eq (show ((a + q : Nat) : Int) + 1 = ((a + (q + 1) : Nat) : Int) by omega))) (by simp only [List.length_set]; omega) (O.nil hN)) (DM.one (i := 17) rfl rfl (by kernel_rfl) (O.storeF (G := Dt.intF) ((Ss.insW P Y x q T0).getD (a + q) 0) sizeOf3 rfl (fun _ => rfl) rfl rfl (Eq.trans rfl (Ss.gdv _ _)) ho76 (by simp only [List.length_set]; omega) (fun w7 hs7 e7 z7 => ?_)))
    rw [← hv76] at hs7
    replace e7 : Ext (fun j => j = g) w6 w7 := e7.mono (fun k _ hk => by have h9 := (Value.slice.inj hv76).1; cases h9; exact hk)
    simp only [Int.toNat_natCast, Nat.zero_add, Nat.mul_one] at hs7
    refine O.nil ⟨(Ext.new (Ext.new (Ext.refl _ _) e6 (by intro i9 _ h9; exact h9)) e7 (by intro i9 _ h9; exact h9)), DM.done (by kernel_rfl) (K18 (K17 (C.region (O.mv (O.ad s13_2 rfl (O.asg (O.nil (⟨q + 1, ⟨(Eq.trans rfl (i64_eq (show ((a + q : Nat) : Int) + 1 = ((a + (q + 1) : Nat) : Int) by omega))), s0_2, s1_2, s2_2, s3_2, s4_2, s10_2, (Ext.nw (Ext.nw (Ext.nw (Ext.nw (Ext.refl _ _) e_2) e5) e6) e7), (by rw [← Ss.insW_up (P := P) (D := Y) (x := x) (t := q) (R := T0) (i := a + q) (j := a + (q + 1)) (by omega) (by omega) (by omega)]; exact hs7), ?_⟩, by first | omega | (simp only []; omega)⟩))))))))⟩
    omega
   refine DM.stepU rfl rfl (O.loadC (G := Dt.intF) (i := a + q) (off := 0) (by simp [Dt.intF]; omega) isAgg3 rfl ho73 (by omega) rfl (O.nil ⟨(Ext.refl _ _), DM.one (i := 9) rfl rfl (by kernel_rfl) (O.loadC (G := Dt.intF) (i := a + (q + 1)) (off := 0) (by simp [Dt.intF]; omega) isAgg3 rfl ho69 (by omega) rfl (O.nil ⟨(Ext.refl _ _), ?_⟩))⟩))
   obtain ⟨g75, cap75, hv75⟩ := OwnF.ptr (r0_2.keep e5) (by omega)
   have ho75 := (r0_2.keep e5)
   rw [hv75] at ho75
   refine DM.take (i := 14) rfl rfl rfl rfl (by kernel_rfl) (Ext.refl _ _) ⟨_, rfl⟩ (fun _ hw_ _ hN => O.idxO underlying43 sizeOf3 (Eq.trans (Eq.trans s0_2 s0_1) hv75) s13_2 (by omega) (O.nil hN)) (DM.one (i := 15) rfl rfl (by kernel_rfl) (O.storeF (G := Dt.intF) ((Ss.insW P Y x q T0).getD (a + (q + 1)) 0) sizeOf3 rfl (fun _ => rfl) rfl rfl (Eq.trans rfl (Ss.gdv _ _)) ho75 (by omega) (fun w8 hs8 e8 z8 => ?_)))
   rw [← hv75] at hs8
   replace e8 : Ext (fun j => j = g) w5 w8 := e8.mono (fun k _ hk => by have h9 := (Value.slice.inj hv75).1; cases h9; exact hk)
   simp only [Int.toNat_natCast, Nat.zero_add, Nat.mul_one] at hs8
   refine O.nil ⟨(Ext.new (Ext.refl _ _) e8 (by intro i9 _ h9; exact h9)), ?_⟩
   obtain ⟨g76, cap76, hv76⟩ := OwnF.ptr hs8 (by simp only [List.length_set]; omega)
   have ho76 := hs8
   rw [hv76] at ho76
   refine DM.take (i := 16) rfl rfl rfl rfl (by kernel_rfl) (Ext.new (Ext.refl _ _) e8 (by intro i9 _ h9; exact h9)) ⟨_, rfl⟩ (fun _ hw_ _ hN => O.idxO underlying43 sizeOf3 (Eq.trans (Eq.trans s0_2 s0_1) hv76) (Eq.trans rfl (i64_eq (show ((a + q : Nat) : Int) + 1 = ((a + (q + 1) : Nat) : Int) by omega))) (by simp only [List.length_set]; omega) (O.nil hN)) (DM.one (i := 17) rfl rfl (by kernel_rfl) (O.storeF (G := Dt.intF) ((Ss.insW P Y x q T0).getD (a + q) 0) sizeOf3 rfl (fun _ => rfl) rfl rfl (Eq.trans rfl (Ss.gdv _ _)) ho76 (by simp only [List.length_set]; omega) (fun w9 hs9 e9 z9 => ?_)))
   rw [← hv76] at hs9
   replace e9 : Ext (fun j => j = g) w8 w9 := e9.mono (fun k _ hk => by have h9 := (Value.slice.inj hv76).1; cases h9; exact hk)
   simp only [Int.toNat_natCast, Nat.zero_add, Nat.mul_one] at hs9
   refine O.nil ⟨(Ext.new (Ext.new (Ext.refl _ _) e8 (by intro i9 _ h9; exact h9)) e9 (by intro i9 _ h9; exact h9)), DM.done (by kernel_rfl) (K18 (K17 (C.region (O.mv (O.ad s13_2 rfl (O.asg (O.nil (⟨q + 1, ⟨(Eq.trans rfl (i64_eq (show ((a + q : Nat) : Int) + 1 = ((a + (q + 1) : Nat) : Int) by omega))), s0_2, s1_2, s2_2, s3_2, s4_2, s10_2, (Ext.nw (Ext.nw (Ext.nw (Ext.nw (Ext.refl _ _) e_2) e5) e8) e9), (by rw [← Ss.insW_up (P := P) (D := Y) (x := x) (t := q) (R := T0) (i := a + q) (j := a + (q + 1)) (by omega) (by omega) (by omega)]; exact hs9), ?_⟩, by first | omega | (simp only []; omega)⟩))))))))⟩
   omega
  have hqs : q = s := by omega
  have h1y : OwnF Dt.intF 3 B w4 (.slice (some ⟨g, 0, none⟩) n cap) (Ss.insW P Y x s T0) := by rw [← hqs]; exact r0_2
  refine C.exit (K14 (K12 (C.ret (Outs.none rfl ?_))))
  first
  | exact ⟨rfl, ⟨_, hM.join hcr hg1 hg2, h1y⟩, (Ext.nw (Ext.refl _ _) e_2)⟩
  | exact ⟨rfl, ⟨_, hmg, by rw [← Ss.insW_eq]; exact h1y⟩, (Ext.nw (Ext.refl _ _) e_2)⟩
 refine C.skip (K1 (C.sq fun K19 => C.sr fun K20 => O.mv (O.mv (O.sb rfl rfl (O.eqlI (Eq.trans rfl (i64_eq (show (b : Int) - (m : Int) = ((Y.length : Nat) : Int) by omega))) rfl (K20 (C.condD rfl (fun c80 => ?_) (fun c80 => ?_))))))))
 ·
  have hY1 : Y.length = 1 := by omega
  obtain ⟨x, hx⟩ : ∃ x, x = Y.getD 0 0 := ⟨_, rfl⟩
  have hY9 : Y = [x] := by rw [hx]; exact Ss.one_of hY1
  have hxz : 0 ≤ x ∧ x < (l.length : Int) := hx ▸ hM.ic _ (Ss.getD_mem (by omega))
  refine C.sr fun K21 => O.mv (O.asg (K21 (C.sr fun K22 => O.mv (O.asg (K22 (C.sq fun K23 => C.bl fun K24 => C.loop0 (σ := Nat × Nat) (fun f0 w0 ⟨s, t⟩ f wz => f 14 = .int .i64 (((a + s : Nat) : Int)) ∧ f 15 = .int .i64 (((a + t : Nat) : Int)) ∧ f 0 = f0 0 ∧ f 1 = f0 1 ∧ f 2 = f0 2 ∧ f 3 = f0 3 ∧ f 4 = f0 4 ∧ Le w wz ∧ OwnF Dt.intF 3 B wz (.slice (some ⟨g, 0, none⟩) n cap) (P ++ (A ++ (Y ++ T0))) ∧ s ≤ t ∧ t ≤ A.length ∧ (s = 0 ∨ Ss.L (Ds.kx l) (A.getD (s - 1) 0) x) ∧ (t = A.length ∨ Ss.L (Ds.kx l) x (A.getD t 0))) (fun ⟨s, t⟩ => t - s) (0, A.length) ?_ ?_))))))
  ·
   refine ⟨(Eq.trans rfl (i64_eq (by omega))), (Eq.trans rfl (i64_eq (by omega))), rfl, rfl, rfl, rfl, rfl, (Le.refl _), h, ?_⟩
   exact ⟨Nat.zero_le _, Nat.le_refl _, .inl rfl, .inl rfl⟩
  rintro ⟨s, t⟩ f_3 w10 ⟨s14_3, s15_3, s0_3, s1_3, s2_3, s3_3, s4_3, e_3, r0_3, ⟨h1, h2, h3, h4⟩⟩
  have z_3 := e_3.size
  have r0_3s := r0_3.sl
  refine C.sq fun K25 => C.sr fun K26 => O.mv (O.mv (O.lssI s14_3 s15_3 (K26 (C.condD rfl (fun c85 => ?_) (fun c85 => ?_)))))
  ·
   refine C.skip (K25 (C.bl fun K27 => C.sr fun K28 => O.mv (O.mv (O.ad s14_3 s15_3 (O.convIU (m' := 64) underlying3 underlying88 rfl rfl rfl (O.shrU (m := 64) (c := 1) rfl rfl rfl rfl (O.convU64I underlying88 underlying3 rfl ?_)))))))
   obtain ⟨u, hu⟩ : ∃ u, u = (s + t) / 2 := ⟨_, rfl⟩
   have hsu : s ≤ u ∧ u < t := by omega
   refine O.cast (v' := .int .i64 ((a + u : Nat) : Int)) (congrArg (Value.int .i64) ((Ss.half64 (by omega) (by omega)).trans (by omega))) (O.asg (K28 (C.sd fun K29 w11 e11 z11 => D.mv 0 rfl (Le.refl _) (D.mv 1 rfl (Le.refl _) (D.mv 2 rfl (Le.refl _) ?_)))))
   obtain ⟨a95, h95, hr95⟩ := Sl.at (i := (m : Int)) (P := Tryz.prog) underlying43 sizeOf3 rfl (r0_3s.keep e11) (by omega)
   refine D.t 3 rfl (Le.refl _) (fun _ _ _ hN => O.idxR s0_3 s2_3 hr95 (O.nil hN)) (D.t 4 rfl (Le.refl _) (fun _ hw_ _ hN => O.load1F (G := Dt.intF) isAgg3 rfl rfl rfl (h95.keep hw_) (O.nil hN)) (D.mv 5 rfl (Le.refl _) (D.mv 6 rfl (Le.refl _) ?_)))
   obtain ⟨a99, h99, hr99⟩ := Sl.at (i := ((a + u : Nat) : Int)) (P := Tryz.prog) underlying43 sizeOf3 rfl (r0_3s.keep e11) (by omega)
   refine D.t 7 rfl (Le.refl _) (fun _ _ _ hN => O.idxR s0_3 rfl hr99 (O.nil hN)) (D.t 8 rfl (Le.refl _) (fun _ hw_ _ hN => O.load1F (G := Dt.intF) isAgg3 rfl rfl rfl (h99.keep hw_) (O.nil hN)) (D.on 9 rfl rfl ?_))
   refine O.callV (vs := [.int .i64 (x), .int .i64 (A.getD u 0)]) call48 s4_3 (args2 (Eq.trans (Eq.trans rfl (Ss.gdv _ _)) (congrArg (Value.int .i64) ((Ss.app_right (show 0 < Y.length by omega) (by omega)).trans hx.symm))) (Eq.trans (Eq.trans rfl (Ss.gdv _ _)) (congrArg (Value.int .i64) (Ss.app_left (show u < A.length by omega) (by omega))))) (cmpS_spec c v0 l F (x) (A.getD u 0) _ ((ho.keep e_3).keep e11) ((hlf.keep e_3).keep e11) hxz (hM.ia _ (Ss.getD_mem (by omega)))) ?_
   rintro v_101 w12 ⟨zv101, rfl, hzv101, e12⟩
   have z12 := e12.size
   refine O.nil ⟨e12, D.t 10 rfl e12 (fun _ _ _ hN => O.lssI rfl rfl (O.nil hN)) (D.t 11 rfl e12 (fun _ _ _ hN => O.not rfl (O.nil hN)) (K29 (C.cond rfl (fun c103 => ?_) (fun c103 => ?_))))⟩
   ·
    replace c103 : ¬ zv101 < 0 := by simpa using c103
    have hL : Ss.L (Ds.kx l) (A.getD u 0) x := Ss.L.not (hM.lt _ (Ss.getD_mem (by omega)) _ (by rw [hY9]; exact List.mem_singleton_self _)) (fun h9 => c103 (hzv101.2 h9))
    have hk9 : (u + 1) ≤ t ∧ t ≤ A.length ∧ ((u + 1) = 0 ∨ Ss.L (Ds.kx l) (A.getD ((u + 1) - 1) 0) x) ∧ (t = A.length ∨ Ss.L (Ds.kx l) x (A.getD t 0)) := ⟨by omega, by omega, .inr hL, h4⟩
    refine C.region (O.mv (O.ad rfl rfl (O.asg (O.nil (K27 (⟨(u + 1, t), ⟨(Eq.trans rfl (i64_eq (show ((a + u : Nat) : Int) + 1 = ((a + (u + 1) : Nat) : Int) by omega))), s15_3, s0_3, s1_3, s2_3, s3_3, s4_3, (Ext.trans (Ext.trans e_3 e11) e12), ((r0_3.keep e11).keep e12), ?_⟩, by first | omega | (simp only []; omega)⟩))))))
    exact hk9
   replace c103 : zv101 < 0 := by simpa using c103
   have hL : Ss.L (Ds.kx l) x (A.getD u 0) := .inl (hzv101.1 c103)
   have hk9 : s ≤ u ∧ u ≤ A.length ∧ (s = 0 ∨ Ss.L (Ds.kx l) (A.getD (s - 1) 0) x) ∧ (u = A.length ∨ Ss.L (Ds.kx l) x (A.getD u 0)) := ⟨by omega, by omega, h3, .inr hL⟩
   refine C.region (O.mv (O.asg (O.nil (K27 (⟨(s, u), ⟨s14_3, rfl, s0_3, s1_3, s2_3, s3_3, s4_3, (Ext.trans (Ext.trans e_3 e11) e12), ((r0_3.keep e11).keep e12), ?_⟩, by first | omega | (simp only []; omega)⟩)))))
   exact hk9
  have hst : s = t := by omega
  rw [← hst] at h4
  have h0x : OwnF Dt.intF 3 B w10 (.slice (some ⟨g, 0, none⟩) n cap) (Ss.insW P A x A.length T0) := by
   have q := r0_3
   rw [hY9] at q
   rw [Ss.insW_full]
   exact q
  have hmg : Ss.Mgd (Ds.kx l) A Y (A.take s ++ x :: A.drop s) := by
   rw [hY9] at hM ⊢
   exact hM.one_right (by omega) h3 h4
  refine C.exit (K24 (K23 (C.sq fun K30 => C.sr fun K31 => O.mv (O.asg (K31 (C.bl fun K32 => C.loop0 (σ := Nat) (fun f0 w0 q f wz => f 17 = .int .i64 (((a + q : Nat) : Int)) ∧ f 0 = f0 0 ∧ f 1 = f0 1 ∧ f 2 = f0 2 ∧ f 3 = f0 3 ∧ f 4 = f0 4 ∧ f 14 = f0 14 ∧ Ext (fun j => j = g) w wz ∧ OwnF Dt.intF 3 B wz (.slice (some ⟨g, 0, none⟩) n cap) (Ss.insW P A x q T0) ∧ s ≤ q ∧ q ≤ A.length) (fun q => q) A.length ?_ ?_))))))
  ·
   refine ⟨(Eq.trans s2_3 (i64_eq (by omega))), rfl, rfl, rfl, rfl, rfl, rfl, (Ext.nw (Ext.refl _ _) e_3), h0x, ?_⟩
   exact ⟨by omega, Nat.le_refl _⟩
  rintro q f_4 w13 ⟨s17_4, s0_4, s1_4, s2_4, s3_4, s4_4, s14_4, e_4, r0_4, ⟨hq, hqA⟩⟩
  have z_4 := e_4.size
  have r0_4s := r0_4.sl
  have hwl := Ss.insW_length P A x q T0
  refine C.sq fun K33 => C.sr fun K34 => O.mv (O.mv (O.gtrI s17_4 (Eq.trans s14_4 s14_3) (K34 (C.condD rfl (fun c110 => ?_) (fun c110 => ?_)))))
  ·
   refine C.skip (K33 (C.sq fun K35 => C.bl fun K36 => C.drawM (fun j => j = g) (by kernel_rfl) fun w14 e14 => ?_))
   have z14 := e14.size
   refine DM.take (i := 0) rfl rfl rfl rfl (by kernel_rfl) (Ext.refl _ _) ⟨pure _, rfl⟩ (fun _ hw_ _ hN => O.mv (O.nil hN)) (DM.take (i := 1) rfl rfl rfl rfl (by kernel_rfl) (Ext.refl _ _) ⟨pure _, rfl⟩ (fun _ hw_ _ hN => O.mv (O.nil hN)) (DM.take (i := 2) rfl rfl rfl rfl (by kernel_rfl) (Ext.refl _ _) ⟨pure _, rfl⟩ (fun _ hw_ _ hN => O.mv (O.nil hN)) (DM.take (i := 3) rfl rfl rfl rfl (by kernel_rfl) (Ext.refl _ _) ⟨pure _, rfl⟩ (fun _ hw_ _ hN => O.mv (O.nil hN)) (DM.take (i := 4) rfl rfl rfl rfl (by kernel_rfl) (Ext.refl _ _) ⟨_, rfl⟩ (fun _ hw_ _ hN => O.sb s17_4 rfl (O.nil hN)) ?_))))
   refine DM.take (i := 5) rfl rfl rfl rfl (by kernel_rfl) (Ext.refl _ _) ⟨pure _, rfl⟩ (fun _ hw_ _ hN => O.mv (O.nil hN)) (DM.take (i := 6) rfl rfl rfl rfl (by kernel_rfl) (Ext.refl _ _) ⟨pure _, rfl⟩ (fun _ hw_ _ hN => O.mv (O.nil hN)) (DM.take (i := 7) rfl rfl rfl rfl (by kernel_rfl) (Ext.refl _ _) ⟨_, rfl⟩ (fun _ hw_ _ hN => O.sb s17_4 rfl (O.nil hN)) ?_))
   obtain ⟨g121, cap121, hv121⟩ := OwnF.ptr (r0_4.keep e14) (by omega)
   have ho121 := (r0_4.keep e14)
   rw [hv121] at ho121
   refine DM.take (i := 8) rfl rfl rfl rfl (by kernel_rfl) (Ext.refl _ _) ⟨_, rfl⟩ (fun _ hw_ _ hN => O.idxO underlying43 sizeOf3 (Eq.trans (Eq.trans s0_4 s0_3) hv121) (Eq.trans rfl (i64_eq (show ((a + q : Nat) : Int) - 1 = ((a + (q - 1) : Nat) : Int) by omega))) (by omega) (O.nil hN)) (DM.take (i := 10) rfl rfl rfl rfl (by kernel_rfl) (Ext.refl _ _) ⟨pure _, rfl⟩ (fun _ hw_ _ hN => O.mv (O.nil hN)) (DM.take (i := 11) rfl rfl rfl rfl (by kernel_rfl) (Ext.refl _ _) ⟨pure _, rfl⟩ (fun _ hw_ _ hN => O.mv (O.nil hN)) ?_))
   obtain ⟨g125, cap125, hv125⟩ := OwnF.ptr (r0_4.keep e14) (by omega)
   have ho125 := (r0_4.keep e14)
   rw [hv125] at ho125
   refine DM.take (i := 12) rfl rfl rfl rfl (by kernel_rfl) (Ext.refl _ _) ⟨_, rfl⟩ (fun _ hw_ _ hN => O.idxO underlying43 sizeOf3 (Eq.trans (Eq.trans s0_4 s0_3) hv125) s17_4 (by omega) (O.nil hN)) (DM.many [9, 13] (by kernel_rfl) (by decide) ⟨?_, ?_, trivial⟩)
   ·
    refine DM.stepU rfl rfl (O.loadC (G := Dt.intF) (i := a + (q - 1)) (off := 0) (by simp [Dt.intF]; omega) isAgg3 rfl ho121 (by omega) rfl (O.nil ⟨(Ext.refl _ _), DM.one (i := 13) rfl rfl (by kernel_rfl) (O.loadC (G := Dt.intF) (i := a + q) (off := 0) (by simp [Dt.intF]; omega) isAgg3 rfl ho125 (by omega) rfl (O.nil ⟨(Ext.refl _ _), ?_⟩))⟩))
    obtain ⟨g127, cap127, hv127⟩ := OwnF.ptr (r0_4.keep e14) (by omega)
    have ho127 := (r0_4.keep e14)
    rw [hv127] at ho127
    refine DM.take (i := 14) rfl rfl rfl rfl (by kernel_rfl) (Ext.refl _ _) ⟨_, rfl⟩ (fun _ hw_ _ hN => O.idxO underlying43 sizeOf3 (Eq.trans (Eq.trans s0_4 s0_3) hv127) s17_4 (by omega) (O.nil hN)) (DM.one (i := 15) rfl rfl (by kernel_rfl) (O.storeF (G := Dt.intF) ((Ss.insW P A x q T0).getD (a + (q - 1)) 0) sizeOf3 rfl (fun _ => rfl) rfl rfl (Eq.trans rfl (Ss.gdv _ _)) ho127 (by omega) (fun w15 hs15 e15 z15 => ?_)))
    rw [← hv127] at hs15
    replace e15 : Ext (fun j => j = g) w14 w15 := e15.mono (fun k _ hk => by have h9 := (Value.slice.inj hv127).1; cases h9; exact hk)
    simp only [Int.toNat_natCast, Nat.zero_add, Nat.mul_one] at hs15
    refine O.nil ⟨(Ext.new (Ext.refl _ _) e15 (by intro i9 _ h9; exact h9)), ?_⟩
    obtain ⟨g128, cap128, hv128⟩ := OwnF.ptr hs15 (by simp only [List.length_set]; omega)
    have ho128 := hs15
    rw [hv128] at ho128
    refine DM.take (i := 16) rfl rfl rfl rfl (by kernel_rfl) (Ext.new (Ext.refl _ _) e15 (by intro i9 _ h9; exact h9)) ⟨_, rfl⟩ (fun _ hw_ _ hN => O.idxO underlying43 sizeOf3 (Eq.trans (Eq.trans s0_4 s0_3) hv128) (Eq.trans rfl (i64_eq (show ((a + q : Nat) : Int) - 1 = ((a + (q - 1) : Nat) : Int) by omega))) (by simp only [List.length_set]; omega) (O.nil hN)) (DM.one (i := 17) rfl rfl (by kernel_rfl) (O.storeF (G := Dt.intF) ((Ss.insW P A x q T0).getD (a + q) 0) sizeOf3 rfl (fun _ => rfl) rfl rfl (Eq.trans rfl (Ss.gdv _ _)) ho128 (by simp only [List.length_set]; omega) (fun w16 hs16 e16 z16 => ?_)))
    rw [← hv128] at hs16
    replace e16 : Ext (fun j => j = g) w15 w16 := e16.mono (fun k _ hk => by have h9 := (Value.slice.inj hv128).1; cases h9; exact hk)
    simp only [Int.toNat_natCast, Nat.zero_add, Nat.mul_one] at hs16
    refine O.nil ⟨(Ext.new (Ext.new (Ext.refl _ _) e15 (by intro i9 _ h9; exact h9)) e16 (by intro i9 _ h9; exact h9)), DM.done (by kernel_rfl) (K36 (K35 (C.region (O.mv (O.sb s17_4 rfl (O.asg (O.nil (⟨q - 1, ⟨(Eq.trans rfl (i64_eq (show ((a + q : Nat) : Int) - 1 = ((a + (q - 1) : Nat) : Int) by omega))), s0_4, s1_4, s2_4, s3_4, s4_4, s14_4, (Ext.nw (Ext.nw (Ext.nw (Ext.nw (Ext.refl _ _) e_4) e14) e15) e16), (by rw [← Ss.insW_down2 (P := P) (D := A) (x := x) (t := q) (R := T0) (i := a + q) (j := a + (q - 1)) (by omega) (by omega) (by omega) (by omega)]; exact hs16), ?_⟩, by first | omega | (simp only []; omega)⟩))))))))⟩
    omega
   refine DM.stepU rfl rfl (O.loadC (G := Dt.intF) (i := a + q) (off := 0) (by simp [Dt.intF]; omega) isAgg3 rfl ho125 (by omega) rfl (O.nil ⟨(Ext.refl _ _), DM.one (i := 9) rfl rfl (by kernel_rfl) (O.loadC (G := Dt.intF) (i := a + (q - 1)) (off := 0) (by simp [Dt.intF]; omega) isAgg3 rfl ho121 (by omega) rfl (O.nil ⟨(Ext.refl _ _), ?_⟩))⟩))
   obtain ⟨g127, cap127, hv127⟩ := OwnF.ptr (r0_4.keep e14) (by omega)
   have ho127 := (r0_4.keep e14)
   rw [hv127] at ho127
   refine DM.take (i := 14) rfl rfl rfl rfl (by kernel_rfl) (Ext.refl _ _) ⟨_, rfl⟩ (fun _ hw_ _ hN => O.idxO underlying43 sizeOf3 (Eq.trans (Eq.trans s0_4 s0_3) hv127) s17_4 (by omega) (O.nil hN)) (DM.one (i := 15) rfl rfl (by kernel_rfl) (O.storeF (G := Dt.intF) ((Ss.insW P A x q T0).getD (a + (q - 1)) 0) sizeOf3 rfl (fun _ => rfl) rfl rfl (Eq.trans rfl (Ss.gdv _ _)) ho127 (by omega) (fun w17 hs17 e17 z17 => ?_)))
   rw [← hv127] at hs17
   replace e17 : Ext (fun j => j = g) w14 w17 := e17.mono (fun k _ hk => by have h9 := (Value.slice.inj hv127).1; cases h9; exact hk)
   simp only [Int.toNat_natCast, Nat.zero_add, Nat.mul_one] at hs17
   refine O.nil ⟨(Ext.new (Ext.refl _ _) e17 (by intro i9 _ h9; exact h9)), ?_⟩
   obtain ⟨g128, cap128, hv128⟩ := OwnF.ptr hs17 (by simp only [List.length_set]; omega)
   have ho128 := hs17
   rw [hv128] at ho128
   refine DM.take (i := 16) rfl rfl rfl rfl (by kernel_rfl) (Ext.new (Ext.refl _ _) e17 (by intro i9 _ h9; exact h9)) ⟨_, rfl⟩ (fun _ hw_ _ hN => O.idxO underlying43 sizeOf3 (Eq.trans (Eq.trans s0_4 s0_3) hv128) (Eq.trans rfl (i64_eq (show ((a + q : Nat) : Int) - 1 = ((a + (q - 1) : Nat) : Int) by omega))) (by simp only [List.length_set]; omega) (O.nil hN)) (DM.one (i := 17) rfl rfl (by kernel_rfl) (O.storeF (G := Dt.intF) ((Ss.insW P A x q T0).getD (a + q) 0) sizeOf3 rfl (fun _ => rfl) rfl rfl (Eq.trans rfl (Ss.gdv _ _)) ho128 (by simp only [List.length_set]; omega) (fun w18 hs18 e18 z18 => ?_)))
   rw [← hv128] at hs18
   replace e18 : Ext (fun j => j = g) w17 w18 := e18.mono (fun k _ hk => by have h9 := (Value.slice.inj hv128).1; cases h9; exact hk)
   simp only [Int.toNat_natCast, Nat.zero_add, Nat.mul_one] at hs18
   refine O.nil ⟨(Ext.new (Ext.new (Ext.refl _ _) e17 (by intro i9 _ h9; exact h9)) e18 (by intro i9 _ h9; exact h9)), DM.done (by kernel_rfl) (K36 (K35 (C.region (O.mv (O.sb s17_4 rfl (O.asg (O.nil (⟨q - 1, ⟨(Eq.trans rfl (i64_eq (show ((a + q : Nat) : Int) - 1 = ((a + (q - 1) : Nat) : Int) by omega))), s0_4, s1_4, s2_4, s3_4, s4_4, s14_4, (Ext.nw (Ext.nw (Ext.nw (Ext.nw (Ext.refl _ _) e_4) e14) e17) e18), (by rw [← Ss.insW_down2 (P := P) (D := A) (x := x) (t := q) (R := T0) (i := a + q) (j := a + (q - 1)) (by omega) (by omega) (by omega) (by omega)]; exact hs18), ?_⟩, by first | omega | (simp only []; omega)⟩))))))))⟩
   omega
  have hqs : q = s := by omega
  have h1y : OwnF Dt.intF 3 B w13 (.slice (some ⟨g, 0, none⟩) n cap) (Ss.insW P A x s T0) := by rw [← hqs]; exact r0_4
  refine C.exit (K32 (K30 (C.ret (Outs.none rfl ?_))))
  first
  | exact ⟨rfl, ⟨_, hM.join hcr hg1 hg2, h1y⟩, (Ext.nw (Ext.refl _ _) e_4)⟩
  | exact ⟨rfl, ⟨_, hmg, by rw [← Ss.insW_eq]; exact h1y⟩, (Ext.nw (Ext.refl _ _) e_4)⟩
 refine C.skip (K19 (C.sr fun K37 => O.mv (O.mv (O.ad rfl rfl (O.convIU (m' := 64) underlying3 underlying88 rfl rfl rfl (O.shrU (m := 64) (c := 1) rfl rfl rfl rfl (O.convU64I underlying88 underlying3 rfl ?_)))))))
 obtain ⟨e0, he0⟩ : ∃ e0, e0 = (A.length + Y.length) / 2 := ⟨_, rfl⟩
 refine O.cast (v' := .int .i64 ((a + e0 : Nat) : Int)) (congrArg (Value.int .i64) ((Ss.half64 (by omega) (by omega)).trans (by omega))) (O.asg (K37 (C.sr fun K38 => O.mv (O.mv (O.ad rfl rfl (O.asg (K38 (C.sr fun K39 => O.asg (O.asg (K39 (C.sq fun K40 => C.sr fun K41 => O.mv (O.mv (O.gtrI rfl rfl (K41 (C.condD rfl (fun c140 => ?_) (fun c140 => ?_))))))))))))))))
 ·
  obtain ⟨s0, hs0⟩ : ∃ s0, s0 = e0 - Y.length := ⟨_, rfl⟩
  obtain ⟨t0, ht0⟩ : ∃ t0, t0 = e0 := ⟨_, rfl⟩
  have hi0 : s0 ≤ t0 ∧ t0 ≤ A.length ∧ t0 ≤ e0 ∧ e0 - s0 ≤ Y.length ∧ (s0 = 0 ∨ e0 - s0 = Y.length ∨ Ss.L (Ds.kx l) (A.getD (s0 - 1) 0) (Y.getD (e0 - s0) 0)) ∧ (t0 = A.length ∨ e0 - t0 = 0 ∨ Ss.L (Ds.kx l) (Y.getD (e0 - 1 - t0) 0) (A.getD t0 0)) := ⟨by omega, by omega, by omega, by omega, .inr (.inl (by omega)), .inr (.inl (by omega))⟩
  refine C.sr fun K42 => O.mv (O.mv (O.subI (Eq.trans rfl (i64_eq (show ((a + e0 : Nat) : Int) + (m : Int) = ((a + e0 + m : Nat) : Int) by omega))) rfl (by unfold InI; omega) (O.asg (K42 (C.region (O.mv (O.asg (O.nil (K40 (C.sr fun K43 => O.mv (O.subI (Eq.trans rfl (i64_eq (show ((a + e0 : Nat) : Int) + (m : Int) = ((a + e0 + m : Nat) : Int) by omega))) rfl (by unfold InI; omega) (O.asg (K43 (C.sq fun K44 => C.bl fun K45 => ?_))))))))))))))
  refine C.loop0 (σ := Nat × Nat) (fun f0 w0 ⟨s, t⟩ f wz => f 20 = .int .i64 (((a + s : Nat) : Int)) ∧ f 21 = .int .i64 (((a + t : Nat) : Int)) ∧ f 0 = f0 0 ∧ f 1 = f0 1 ∧ f 2 = f0 2 ∧ f 3 = f0 3 ∧ f 4 = f0 4 ∧ f 18 = f0 18 ∧ f 19 = f0 19 ∧ f 22 = f0 22 ∧ Le w wz ∧ OwnF Dt.intF 3 B wz (.slice (some ⟨g, 0, none⟩) n cap) (P ++ (A ++ (Y ++ T0))) ∧ s ≤ t ∧ t ≤ A.length ∧ t ≤ e0 ∧ e0 - s ≤ Y.length ∧ (s = 0 ∨ e0 - s = Y.length ∨ Ss.L (Ds.kx l) (A.getD (s - 1) 0) (Y.getD (e0 - s) 0)) ∧ (t = A.length ∨ e0 - t = 0 ∨ Ss.L (Ds.kx l) (Y.getD (e0 - 1 - t) 0) (A.getD t 0))) (fun ⟨s, t⟩ => t - s) (s0, t0) ?_ ?_
  ·
   refine ⟨(Eq.trans (Eq.trans rfl (i64_eq (show ((a + e0 + m : Nat) : Int) - (b : Int) = ((a + (e0 - Y.length) : Nat) : Int) by omega))) (i64_eq (by omega))), (Eq.trans rfl (i64_eq (by omega))), rfl, rfl, rfl, rfl, rfl, rfl, rfl, rfl, (Le.refl _), h, ?_⟩
   exact hi0
  rintro ⟨s, t⟩ f_5 w19 ⟨s20_5, s21_5, s0_5, s1_5, s2_5, s3_5, s4_5, s18_5, s19_5, s22_5, e_5, r0_5, ⟨h1, h2, h2a, h2b, h5, h6⟩⟩
  have z_5 := e_5.size
  have r0_5s := r0_5.sl
  refine C.sq fun K46 => C.sr fun K47 => O.mv (O.mv (O.lssI s20_5 s21_5 (K47 (C.condD rfl (fun c151 => ?_) (fun c151 => ?_)))))
  ·
   refine C.skip (K46 (C.bl fun K48 => C.sr fun K49 => O.mv (O.mv (O.ad s20_5 s21_5 (O.convIU (m' := 64) underlying3 underlying88 rfl rfl rfl (O.shrU (m := 64) (c := 1) rfl rfl rfl rfl (O.convU64I underlying88 underlying3 rfl ?_)))))))
   obtain ⟨u, hu⟩ : ∃ u, u = (s + t) / 2 := ⟨_, rfl⟩
   have hsu : s ≤ u ∧ u < t := by omega
   refine O.cast (v' := .int .i64 ((a + u : Nat) : Int)) (congrArg (Value.int .i64) ((Ss.half64 (by omega) (by omega)).trans (by omega))) (O.asg (K49 (C.sd fun K50 w20 e20 z20 => D.mv 0 rfl (Le.refl _) (D.mv 1 rfl (Le.refl _) (D.mv 2 rfl (Le.refl _) (D.mv 3 rfl (Le.refl _) (D.t 4 rfl (Le.refl _) (fun _ _ _ hN => O.subI (Eq.trans s22_5 (Eq.trans rfl (i64_eq (show ((a + e0 + m : Nat) : Int) - 1 = ((a + e0 + m - 1 : Nat) : Int) by omega)))) rfl (by unfold InI; omega) (O.nil hN)) ?_)))))))
   obtain ⟨a163, h163, hr163⟩ := Sl.at (i := ((m + (e0 - 1 - u) : Nat) : Int)) (P := Tryz.prog) underlying43 sizeOf3 rfl (r0_5s.keep e20) (by omega)
   refine D.t 5 rfl (Le.refl _) (fun _ _ _ hN => O.idxR s0_5 (Eq.trans rfl (i64_eq (show ((a + e0 + m - 1 : Nat) : Int) - ((a + u : Nat) : Int) = ((m + (e0 - 1 - u) : Nat) : Int) by omega))) hr163 (O.nil hN)) (D.t 6 rfl (Le.refl _) (fun _ hw_ _ hN => O.load1F (G := Dt.intF) isAgg3 rfl rfl rfl (h163.keep hw_) (O.nil hN)) (D.mv 7 rfl (Le.refl _) (D.mv 8 rfl (Le.refl _) ?_)))
   obtain ⟨a167, h167, hr167⟩ := Sl.at (i := ((a + u : Nat) : Int)) (P := Tryz.prog) underlying43 sizeOf3 rfl (r0_5s.keep e20) (by omega)
   refine D.t 9 rfl (Le.refl _) (fun _ _ _ hN => O.idxR s0_5 rfl hr167 (O.nil hN)) (D.t 10 rfl (Le.refl _) (fun _ hw_ _ hN => O.load1F (G := Dt.intF) isAgg3 rfl rfl rfl (h167.keep hw_) (O.nil hN)) (D.on 11 rfl rfl ?_))
   refine O.callV (vs := [.int .i64 (Y.getD (e0 - 1 - u) 0), .int .i64 (A.getD u 0)]) call48 s4_5 (args2 (Eq.trans (Eq.trans rfl (Ss.gdv _ _)) (congrArg (Value.int .i64) (Ss.app_right (show e0 - 1 - u < Y.length by omega) (by omega)))) (Eq.trans (Eq.trans rfl (Ss.gdv _ _)) (congrArg (Value.int .i64) (Ss.app_left (show u < A.length by omega) (by omega))))) (cmpS_spec c v0 l F (Y.getD (e0 - 1 - u) 0) (A.getD u 0) _ ((ho.keep e_5).keep e20) ((hlf.keep e_5).keep e20) (hM.ic _ (Ss.getD_mem (by omega))) (hM.ia _ (Ss.getD_mem (by omega)))) ?_
   rintro v_169 w21 ⟨zv169, rfl, hzv169, e21⟩
   have z21 := e21.size
   refine O.nil ⟨e21, D.t 12 rfl e21 (fun _ _ _ hN => O.lssI rfl rfl (O.nil hN)) (D.t 13 rfl e21 (fun _ _ _ hN => O.not rfl (O.nil hN)) (K50 (C.cond rfl (fun c171 => ?_) (fun c171 => ?_))))⟩
   ·
    replace c171 : ¬ zv169 < 0 := by simpa using c171
    have hL : Ss.L (Ds.kx l) (A.getD u 0) (Y.getD (e0 - 1 - u) 0) := Ss.L.not (hM.lt _ (Ss.getD_mem (by omega)) _ (Ss.getD_mem (by omega))) (fun h9 => c171 (hzv169.2 h9))
    have hk9 : (u + 1) ≤ t ∧ t ≤ A.length ∧ t ≤ e0 ∧ e0 - (u + 1) ≤ Y.length ∧ ((u + 1) = 0 ∨ e0 - (u + 1) = Y.length ∨ Ss.L (Ds.kx l) (A.getD ((u + 1) - 1) 0) (Y.getD (e0 - (u + 1)) 0)) ∧ (t = A.length ∨ e0 - t = 0 ∨ Ss.L (Ds.kx l) (Y.getD (e0 - 1 - t) 0) (A.getD t 0)) := ⟨by omega, by omega, by omega, by omega, .inr (.inr (by rw [show e0 - (u + 1) = e0 - 1 - u by omega]; exact hL)), h6⟩
    refine C.region (O.mv (O.ad rfl rfl (O.asg (O.nil (K48 (⟨(u + 1, t), ⟨(Eq.trans rfl (i64_eq (show ((a + u : Nat) : Int) + 1 = ((a + (u + 1) : Nat) : Int) by omega))), s21_5, s0_5, s1_5, s2_5, s3_5, s4_5, s18_5, s19_5, s22_5, (Ext.trans (Ext.trans e_5 e20) e21), ((r0_5.keep e20).keep e21), ?_⟩, by first | omega | (simp only []; omega)⟩))))))
    exact hk9
   replace c171 : zv169 < 0 := by simpa using c171
   have hL : Ss.L (Ds.kx l) (Y.getD (e0 - 1 - u) 0) (A.getD u 0) := .inl (hzv169.1 c171)
   have hk9 : s ≤ u ∧ u ≤ A.length ∧ u ≤ e0 ∧ e0 - s ≤ Y.length ∧ (s = 0 ∨ e0 - s = Y.length ∨ Ss.L (Ds.kx l) (A.getD (s - 1) 0) (Y.getD (e0 - s) 0)) ∧ (u = A.length ∨ e0 - u = 0 ∨ Ss.L (Ds.kx l) (Y.getD (e0 - 1 - u) 0) (A.getD u 0)) := ⟨by omega, by omega, by omega, by omega, h5, .inr (.inr hL)⟩
   refine C.region (O.mv (O.asg (O.nil (K48 (⟨(s, u), ⟨s20_5, rfl, s0_5, s1_5, s2_5, s3_5, s4_5, s18_5, s19_5, s22_5, (Ext.trans (Ext.trans e_5 e20) e21), ((r0_5.keep e20).keep e21), ?_⟩, by first | omega | (simp only []; omega)⟩)))))
   exact hk9
  have hst : s = t := by omega
  rw [← hst] at h6
  obtain ⟨e, he⟩ : ∃ e, e = e0 - s := ⟨_, rfl⟩
  have hsA : s ≤ A.length := by omega
  have heY : e ≤ Y.length := by omega
  have hcr := hM.cross (s := s) (e := e) hsA heY (by rw [he]; exact h5) (by rw [he, show e0 - s - 1 = e0 - 1 - s by omega]; exact h6)
  have h0s : OwnF Dt.intF 3 B w19 (.slice (some ⟨g, 0, none⟩) n cap) ((P ++ A.take s) ++ (A.drop s ++ (Y.take e ++ (Y.drop e ++ T0)))) := by rw [← Ss.sym1]; exact r0_5
  refine C.exit (K45 (K44 (C.sr fun K51 => O.mv (O.mv (O.subI (Eq.trans s19_5 (Eq.trans rfl (i64_eq (show ((a + e0 : Nat) : Int) + (m : Int) = ((a + e0 + m : Nat) : Int) by omega)))) s20_5 (by unfold InI; omega) (O.asg (K51 (C.sq fun K52 => C.sr fun K53 => O.mv (O.mv (O.lssI s20_5 s2_5 (O.mv (O.cut 4 (fun f f' => f' 185 = .bool (decide (((a + s : Nat) : Int) < (m : Int) ∧ (m : Int) < ((m + e : Nat) : Int))) ∧ f' 0 = f 0 ∧ f' 1 = f 1 ∧ f' 2 = f 2 ∧ f' 3 = f 3 ∧ f' 4 = f 4 ∧ f' 18 = f 18 ∧ f' 20 = f 20 ∧ f' 24 = f 24) ?_ ?_))))))))))))
  ·
   refine O.splitD (x := .tmp 181) rfl (fun c181 => ?_) (fun c181 => ?_)
   ·
    refine O.yes rfl (isT rfl c181) (O.mv (O.yes rfl (isT rfl c181) (O.mv (O.yes rfl (isT rfl c181) (O.lssI s2_5 (Eq.trans rfl (i64_eq (show ((a + e0 + m : Nat) : Int) - ((a + s : Nat) : Int) = ((m + e : Nat) : Int) by omega))) (O.pickT (isT rfl c181) (O.nil (⟨⟨?_, rfl, rfl, rfl, rfl, rfl, rfl, rfl, rfl⟩, rfl⟩))))))))
    exact dJ rfl
   refine O.no rfl (noB (isF rfl c181) rfl) (O.no rfl (noB (isF rfl c181) rfl) (O.no rfl (noB (isF rfl c181) rfl) (O.pickF (isF rfl c181) (O.nil (⟨⟨?_, rfl, rfl, rfl, rfl, rfl, rfl, rfl, rfl⟩, rfl⟩)))))
   exact dJ rfl
  rintro f_6 ⟨s185_6, s0_6, s1_6, s2_6, s3_6, s4_6, s18_6, s20_6, s24_6⟩
  refine K53 (C.condD s185_6 (fun c185 => ?_) (fun c185 => ?_))
  ·
   refine C.region (O.mv (O.mv (O.mv (O.mv (O.mv (O.call call97 (args5 (Eq.trans s0_6 s0_5) (Eq.trans s20_6 s20_5) (Eq.trans s2_6 s2_5) (Eq.trans s24_6 (Eq.trans rfl (i64_eq (show ((a + e0 + m : Nat) : Int) - ((a + s : Nat) : Int) = ((m + e : Nat) : Int) by omega)))) (Eq.trans s4_6 s4_5)) (rot_spec g n cap (a + s) m (m + e) B (P ++ A.take s) (A.drop s) (Y.take e) (Y.drop e ++ T0) _ _ h0s (by simp only [List.length_append, List.length_take, List.length_drop]; omega) (by simp only [List.length_append, List.length_take]; omega) (by rw [List.length_drop]; omega) (by rw [List.length_take]; omega) (by rw [List.length_drop]; omega) (by rw [List.length_take]; omega) hn) ?_))))))
   rintro v_191 w22 ⟨rfl, hsv191, e22⟩
   have z22 := e22.size
   have h0t : OwnF Dt.intF 3 B w22 (.slice (some ⟨g, 0, none⟩) n cap) (P ++ (A.take s ++ (Y.take e ++ (A.drop s ++ (Y.drop e ++ T0))))) := by rw [← List.append_assoc]; exact hsv191
   refine O.nil (K52 (C.sq fun K54 => C.sr fun K55 => O.mv (O.mv (O.lssI (Eq.trans s1_6 s1_5) (Eq.trans s20_6 s20_5) (O.mv (O.cut 4 (fun f f' => f' 199 = .bool (decide ((a : Int) < ((a + s : Nat) : Int) ∧ ((a + s : Nat) : Int) < ((a + e0 : Nat) : Int))) ∧ f' 0 = f 0 ∧ f' 1 = f 1 ∧ f' 3 = f 3 ∧ f' 4 = f 4 ∧ f' 18 = f 18 ∧ f' 20 = f 20 ∧ f' 24 = f 24) ?_ ?_))))))
   ·
    refine O.splitD (x := .tmp 195) rfl (fun c195 => ?_) (fun c195 => ?_)
    ·
     refine O.yes rfl (isT rfl c195) (O.mv (O.yes rfl (isT rfl c195) (O.mv (O.yes rfl (isT rfl c195) (O.lssI (Eq.trans s20_6 s20_5) (Eq.trans s18_6 s18_5) (O.pickT (isT rfl c195) (O.nil (⟨⟨?_, rfl, rfl, rfl, rfl, rfl, rfl, rfl⟩, rfl⟩))))))))
     exact dJ rfl
    refine O.no rfl (noB (isF rfl c195) rfl) (O.no rfl (noB (isF rfl c195) rfl) (O.no rfl (noB (isF rfl c195) rfl) (O.pickF (isF rfl c195) (O.nil (⟨⟨?_, rfl, rfl, rfl, rfl, rfl, rfl, rfl⟩, rfl⟩)))))
    exact dJ rfl
   rintro f_7 ⟨s199_7, s0_7, s1_7, s3_7, s4_7, s18_7, s20_7, s24_7⟩
   refine K55 (C.condD s199_7 (fun c199 => ?_) (fun c199 => ?_))
   ·
    refine C.region (O.mv (O.mv (O.mv (O.mv (O.mv ?_)))))
    refine O.call call76 (args5 (Eq.trans s0_7 (Eq.trans s0_6 s0_5)) (Eq.trans s1_7 (Eq.trans s1_6 s1_5)) (Eq.trans s20_7 (Eq.trans s20_6 s20_5)) (Eq.trans s18_7 (Eq.trans s18_6 s18_5)) (Eq.trans s4_7 (Eq.trans s4_6 s4_5))) (ih a (a + s) (a + e0) P (A.take s) (Y.take e) (A.drop s ++ (Y.drop e ++ T0)) _ (by rw [List.length_take, List.length_take]; omega) h0t ((ho.keep e_5).keepM e22 (fun h9 => hcg h9)) ((hlf.keep e_5).keepM e22 (fun k9 hk9 h9 => hFg ((show k9 = g from h9) ▸ hk9))) (by simp only [List.length_append, List.length_take, List.length_drop]; omega) ha (by rw [List.length_take]; omega) (by rw [List.length_take]; omega) (by rw [List.length_take]; omega) (by rw [List.length_take]; omega) (hM.left s e)) ?_
    rintro v_205 w23 ⟨rfl, ⟨Mv205, hgv205, hsv205⟩, e23⟩
    have z23 := e23.size
    obtain ⟨M1, hg1, hs1⟩ : ∃ M1, Ss.Mgd (Ds.kx l) (A.take s) (Y.take e) M1 ∧ OwnF Dt.intF 3 B w23 (.slice (some ⟨g, 0, none⟩) n cap) ((P ++ M1) ++ (A.drop s ++ (Y.drop e ++ T0))) := ⟨_, hgv205, by rw [List.append_assoc]; exact hsv205⟩
    refine O.nil (K54 (C.sr fun K56 => O.mv (O.mv (O.lssI (Eq.trans s18_7 (Eq.trans s18_6 s18_5)) (Eq.trans s24_7 (Eq.trans s24_6 (Eq.trans rfl (i64_eq (show ((a + e0 + m : Nat) : Int) - ((a + s : Nat) : Int) = ((m + e : Nat) : Int) by omega))))) (O.mv (O.cut 4 (fun f f' => f' 213 = .bool (decide (((a + e0 : Nat) : Int) < ((m + e : Nat) : Int) ∧ ((m + e : Nat) : Int) < (b : Int))) ∧ f' 0 = f 0 ∧ f' 3 = f 3 ∧ f' 4 = f 4 ∧ f' 18 = f 18 ∧ f' 24 = f 24) ?_ ?_))))))
    ·
     refine O.splitD (x := .tmp 209) rfl (fun c209 => ?_) (fun c209 => ?_)
     ·
      refine O.yes rfl (isT rfl c209) (O.mv (O.yes rfl (isT rfl c209) (O.mv (O.yes rfl (isT rfl c209) (O.lssI (Eq.trans s24_7 (Eq.trans s24_6 (Eq.trans rfl (i64_eq (show ((a + e0 + m : Nat) : Int) - ((a + s : Nat) : Int) = ((m + e : Nat) : Int) by omega))))) (Eq.trans s3_7 (Eq.trans s3_6 s3_5)) (O.pickT (isT rfl c209) (O.nil (⟨⟨?_, rfl, rfl, rfl, rfl, rfl⟩, rfl⟩))))))))
      exact dJ rfl
     refine O.no rfl (noB (isF rfl c209) rfl) (O.no rfl (noB (isF rfl c209) rfl) (O.no rfl (noB (isF rfl c209) rfl) (O.pickF (isF rfl c209) (O.nil (⟨⟨?_, rfl, rfl, rfl, rfl, rfl⟩, rfl⟩)))))
     exact dJ rfl
    rintro f_8 ⟨s213_8, s0_8, s3_8, s4_8, s18_8, s24_8⟩
    refine K56 (C.condD s213_8 (fun c213 => ?_) (fun c213 => ?_))
    ·
     refine C.region (O.mv (O.mv (O.mv (O.mv (O.mv ?_)))))
     refine O.call call76 (args5 (Eq.trans s0_8 (Eq.trans s0_7 (Eq.trans s0_6 s0_5))) (Eq.trans s18_8 (Eq.trans s18_7 (Eq.trans s18_6 s18_5))) (Eq.trans s24_8 (Eq.trans s24_7 (Eq.trans s24_6 (Eq.trans rfl (i64_eq (show ((a + e0 + m : Nat) : Int) - ((a + s : Nat) : Int) = ((m + e : Nat) : Int) by omega)))))) (Eq.trans s3_8 (Eq.trans s3_7 (Eq.trans s3_6 s3_5))) (Eq.trans s4_8 (Eq.trans s4_7 (Eq.trans s4_6 s4_5)))) (ih (a + e0) (m + e) b (P ++ M1) (A.drop s) (Y.drop e) T0 _ (by rw [List.length_drop, List.length_drop]; omega) hs1 (((ho.keep e_5).keepM e22 (fun h9 => hcg h9)).keepM e23 (fun h9 => hcg h9)) (((hlf.keep e_5).keepM e22 (fun k9 hk9 h9 => hFg ((show k9 = g from h9) ▸ hk9))).keepM e23 (fun k9 hk9 h9 => hFg ((show k9 = g from h9) ▸ hk9))) (by have q9 := hg1.length; simp only [List.length_take] at q9; simp only [List.length_append, List.length_drop]; omega) (by have q9 := hg1.length; simp only [List.length_take] at q9; rw [List.length_append]; omega) (by rw [List.length_drop]; omega) (by rw [List.length_drop]; omega) (by rw [List.length_drop]; omega) (by rw [List.length_drop]; omega) (hM.right s e)) ?_
     rintro v_219 w24 ⟨rfl, ⟨Mv219, hgv219, hsv219⟩, e24⟩
     have z24 := e24.size
     obtain ⟨M2, hg2, hs2⟩ : ∃ M2, Ss.Mgd (Ds.kx l) (A.drop s) (Y.drop e) M2 ∧ OwnF Dt.intF 3 B w24 (.slice (some ⟨g, 0, none⟩) n cap) (P ++ ((M1 ++ M2) ++ T0)) := ⟨_, hgv219, by rw [List.append_assoc, ← List.append_assoc P]; exact hsv219⟩
     refine O.nil (Outs.none rfl ?_)
     first
     | exact ⟨rfl, ⟨_, hM.join hcr hg1 hg2, hs2⟩, (Ext.nw (Ext.nw (Ext.nw (Ext.nw (Ext.refl _ _) e_5) e22) e23) e24)⟩
     | exact ⟨rfl, ⟨_, hmg, by rw [← Ss.insW_eq]; exact hs2⟩, (Ext.nw (Ext.nw (Ext.nw (Ext.nw (Ext.refl _ _) e_5) e22) e23) e24)⟩
    obtain ⟨M2, hg2, hs2⟩ : ∃ M2, Ss.Mgd (Ds.kx l) (A.drop s) (Y.drop e) M2 ∧ OwnF Dt.intF 3 B w23 (.slice (some ⟨g, 0, none⟩) n cap) (P ++ ((M1 ++ M2) ++ T0)) := ⟨_, (hM.right s e).idle (by rw [List.length_drop, List.length_drop]; omega), by rw [List.append_assoc, List.append_assoc, ← List.append_assoc P]; exact hs1⟩
    refine C.skip (Outs.none rfl ?_)
    first
    | exact ⟨rfl, ⟨_, hM.join hcr hg1 hg2, hs2⟩, (Ext.nw (Ext.nw (Ext.nw (Ext.refl _ _) e_5) e22) e23)⟩
    | exact ⟨rfl, ⟨_, hmg, by rw [← Ss.insW_eq]; exact hs2⟩, (Ext.nw (Ext.nw (Ext.nw (Ext.refl _ _) e_5) e22) e23)⟩
   obtain ⟨M1, hg1, hs1⟩ : ∃ M1, Ss.Mgd (Ds.kx l) (A.take s) (Y.take e) M1 ∧ OwnF Dt.intF 3 B w22 (.slice (some ⟨g, 0, none⟩) n cap) ((P ++ M1) ++ (A.drop s ++ (Y.drop e ++ T0))) := ⟨_, (hM.left s e).idle (by rw [List.length_take, List.length_take]; omega), by rw [List.append_assoc, List.append_assoc]; exact h0t⟩
   refine C.skip (K54 (C.sr fun K57 => O.mv (O.mv (O.lssI (Eq.trans s18_7 (Eq.trans s18_6 s18_5)) (Eq.trans s24_7 (Eq.trans s24_6 (Eq.trans rfl (i64_eq (show ((a + e0 + m : Nat) : Int) - ((a + s : Nat) : Int) = ((m + e : Nat) : Int) by omega))))) (O.mv (O.cut 4 (fun f f' => f' 213 = .bool (decide (((a + e0 : Nat) : Int) < ((m + e : Nat) : Int) ∧ ((m + e : Nat) : Int) < (b : Int))) ∧ f' 0 = f 0 ∧ f' 3 = f 3 ∧ f' 4 = f 4 ∧ f' 18 = f 18 ∧ f' 24 = f 24) ?_ ?_))))))
   ·
    refine O.splitD (x := .tmp 209) rfl (fun c209 => ?_) (fun c209 => ?_)
    ·
     refine O.yes rfl (isT rfl c209) (O.mv (O.yes rfl (isT rfl c209) (O.mv (O.yes rfl (isT rfl c209) (O.lssI (Eq.trans s24_7 (Eq.trans s24_6 (Eq.trans rfl (i64_eq (show ((a + e0 + m : Nat) : Int) - ((a + s : Nat) : Int) = ((m + e : Nat) : Int) by omega))))) (Eq.trans s3_7 (Eq.trans s3_6 s3_5)) (O.pickT (isT rfl c209) (O.nil (⟨⟨?_, rfl, rfl, rfl, rfl, rfl⟩, rfl⟩))))))))
     exact dJ rfl
    refine O.no rfl (noB (isF rfl c209) rfl) (O.no rfl (noB (isF rfl c209) rfl) (O.no rfl (noB (isF rfl c209) rfl) (O.pickF (isF rfl c209) (O.nil (⟨⟨?_, rfl, rfl, rfl, rfl, rfl⟩, rfl⟩)))))
    exact dJ rfl
   rintro f_9 ⟨s213_9, s0_9, s3_9, s4_9, s18_9, s24_9⟩
   refine K57 (C.condD s213_9 (fun c213 => ?_) (fun c213 => ?_))
   ·
    refine C.region (O.mv (O.mv (O.mv (O.mv (O.mv ?_)))))
    refine O.call call76 (args5 (Eq.trans s0_9 (Eq.trans s0_7 (Eq.trans s0_6 s0_5))) (Eq.trans s18_9 (Eq.trans s18_7 (Eq.trans s18_6 s18_5))) (Eq.trans s24_9 (Eq.trans s24_7 (Eq.trans s24_6 (Eq.trans rfl (i64_eq (show ((a + e0 + m : Nat) : Int) - ((a + s : Nat) : Int) = ((m + e : Nat) : Int) by omega)))))) (Eq.trans s3_9 (Eq.trans s3_7 (Eq.trans s3_6 s3_5))) (Eq.trans s4_9 (Eq.trans s4_7 (Eq.trans s4_6 s4_5)))) (ih (a + e0) (m + e) b (P ++ M1) (A.drop s) (Y.drop e) T0 _ (by rw [List.length_drop, List.length_drop]; omega) hs1 ((ho.keep e_5).keepM e22 (fun h9 => hcg h9)) ((hlf.keep e_5).keepM e22 (fun k9 hk9 h9 => hFg ((show k9 = g from h9) ▸ hk9))) (by have q9 := hg1.length; simp only [List.length_take] at q9; simp only [List.length_append, List.length_drop]; omega) (by have q9 := hg1.length; simp only [List.length_take] at q9; rw [List.length_append]; omega) (by rw [List.length_drop]; omega) (by rw [List.length_drop]; omega) (by rw [List.length_drop]; omega) (by rw [List.length_drop]; omega) (hM.right s e)) ?_
    rintro v_219 w25 ⟨rfl, ⟨Mv219, hgv219, hsv219⟩, e25⟩
    have z25 := e25.size
    obtain ⟨M2, hg2, hs2⟩ : ∃ M2, Ss.Mgd (Ds.kx l) (A.drop s) (Y.drop e) M2 ∧ OwnF Dt.intF 3 B w25 (.slice (some ⟨g, 0, none⟩) n cap) (P ++ ((M1 ++ M2) ++ T0)) := ⟨_, hgv219, by rw [List.append_assoc, ← List.append_assoc P]; exact hsv219⟩
    refine O.nil (Outs.none rfl ?_)
    first
    | exact ⟨rfl, ⟨_, hM.join hcr hg1 hg2, hs2⟩, (Ext.nw (Ext.nw (Ext.nw (Ext.refl _ _) e_5) e22) e25)⟩
    | exact ⟨rfl, ⟨_, hmg, by rw [← Ss.insW_eq]; exact hs2⟩, (Ext.nw (Ext.nw (Ext.nw (Ext.refl _ _) e_5) e22) e25)⟩
   obtain ⟨M2, hg2, hs2⟩ : ∃ M2, Ss.Mgd (Ds.kx l) (A.drop s) (Y.drop e) M2 ∧ OwnF Dt.intF 3 B w22 (.slice (some ⟨g, 0, none⟩) n cap) (P ++ ((M1 ++ M2) ++ T0)) := ⟨_, (hM.right s e).idle (by rw [List.length_drop, List.length_drop]; omega), by rw [List.append_assoc, List.append_assoc, ← List.append_assoc P]; exact hs1⟩
   refine C.skip (Outs.none rfl ?_)
   first
   | exact ⟨rfl, ⟨_, hM.join hcr hg1 hg2, hs2⟩, (Ext.nw (Ext.nw (Ext.refl _ _) e_5) e22)⟩
   | exact ⟨rfl, ⟨_, hmg, by rw [← Ss.insW_eq]; exact hs2⟩, (Ext.nw (Ext.nw (Ext.refl _ _) e_5) e22)⟩
  have h0t : OwnF Dt.intF 3 B w19 (.slice (some ⟨g, 0, none⟩) n cap) (P ++ (A.take s ++ (Y.take e ++ (A.drop s ++ (Y.drop e ++ T0))))) := by
   rw [← Ss.sym2 (by rw [List.length_drop, List.length_take]; omega)]
   exact h0s
  refine C.skip (K52 (C.sq fun K58 => C.sr fun K59 => O.mv (O.mv (O.lssI (Eq.trans s1_6 s1_5) (Eq.trans s20_6 s20_5) (O.mv (O.cut 4 (fun f f' => f' 199 = .bool (decide ((a : Int) < ((a + s : Nat) : Int) ∧ ((a + s : Nat) : Int) < ((a + e0 : Nat) : Int))) ∧ f' 0 = f 0 ∧ f' 1 = f 1 ∧ f' 3 = f 3 ∧ f' 4 = f 4 ∧ f' 18 = f 18 ∧ f' 20 = f 20 ∧ f' 24 = f 24) ?_ ?_))))))
  ·
   refine O.splitD (x := .tmp 195) rfl (fun c195 => ?_) (fun c195 => ?_)
   ·
    refine O.yes rfl (isT rfl c195) (O.mv (O.yes rfl (isT rfl c195) (O.mv (O.yes rfl (isT rfl c195) (O.lssI (Eq.trans s20_6 s20_5) (Eq.trans s18_6 s18_5) (O.pickT (isT rfl c195) (O.nil (⟨⟨?_, rfl, rfl, rfl, rfl, rfl, rfl, rfl⟩, rfl⟩))))))))
    exact dJ rfl
   refine O.no rfl (noB (isF rfl c195) rfl) (O.no rfl (noB (isF rfl c195) rfl) (O.no rfl (noB (isF rfl c195) rfl) (O.pickF (isF rfl c195) (O.nil (⟨⟨?_, rfl, rfl, rfl, rfl, rfl, rfl, rfl⟩, rfl⟩)))))
   exact dJ rfl
  rintro f_10 ⟨s199_10, s0_10, s1_10, s3_10, s4_10, s18_10, s20_10, s24_10⟩
  refine K59 (C.condD s199_10 (fun c199 => ?_) (fun c199 => ?_))
  ·
   refine C.region (O.mv (O.mv (O.mv (O.mv (O.mv (O.call call76 (args5 (Eq.trans s0_10 (Eq.trans s0_6 s0_5)) (Eq.trans s1_10 (Eq.trans s1_6 s1_5)) (Eq.trans s20_10 (Eq.trans s20_6 s20_5)) (Eq.trans s18_10 (Eq.trans s18_6 s18_5)) (Eq.trans s4_10 (Eq.trans s4_6 s4_5))) (ih a (a + s) (a + e0) P (A.take s) (Y.take e) (A.drop s ++ (Y.drop e ++ T0)) _ (by rw [List.length_take, List.length_take]; omega) h0t (ho.keep e_5) (hlf.keep e_5) (by simp only [List.length_append, List.length_take, List.length_drop]; omega) ha (by rw [List.length_take]; omega) (by rw [List.length_take]; omega) (by rw [List.length_take]; omega) (by rw [List.length_take]; omega) (hM.left s e)) ?_))))))
   rintro v_205 w26 ⟨rfl, ⟨Mv205, hgv205, hsv205⟩, e26⟩
   have z26 := e26.size
   obtain ⟨M1, hg1, hs1⟩ : ∃ M1, Ss.Mgd (Ds.kx l) (A.take s) (Y.take e) M1 ∧ OwnF Dt.intF 3 B w26 (.slice (some ⟨g, 0, none⟩) n cap) ((P ++ M1) ++ (A.drop s ++ (Y.drop e ++ T0))) := ⟨_, hgv205, by rw [List.append_assoc]; exact hsv205⟩
   refine O.nil (K58 (C.sr fun K60 => O.mv (O.mv (O.lssI (Eq.trans s18_10 (Eq.trans s18_6 s18_5)) (Eq.trans s24_10 (Eq.trans s24_6 (Eq.trans rfl (i64_eq (show ((a + e0 + m : Nat) : Int) - ((a + s : Nat) : Int) = ((m + e : Nat) : Int) by omega))))) (O.mv (O.cut 4 (fun f f' => f' 213 = .bool (decide (((a + e0 : Nat) : Int) < ((m + e : Nat) : Int) ∧ ((m + e : Nat) : Int) < (b : Int))) ∧ f' 0 = f 0 ∧ f' 3 = f 3 ∧ f' 4 = f 4 ∧ f' 18 = f 18 ∧ f' 24 = f 24) ?_ ?_))))))
   ·
    refine O.splitD (x := .tmp 209) rfl (fun c209 => ?_) (fun c209 => ?_)
    ·
     refine O.yes rfl (isT rfl c209) (O.mv (O.yes rfl (isT rfl c209) (O.mv (O.yes rfl (isT rfl c209) (O.lssI (Eq.trans s24_10 (Eq.trans s24_6 (Eq.trans rfl (i64_eq (show ((a + e0 + m : Nat) : Int) - ((a + s : Nat) : Int) = ((m + e : Nat) : Int) by omega))))) (Eq.trans s3_10 (Eq.trans s3_6 s3_5)) (O.pickT (isT rfl c209) (O.nil (⟨⟨?_, rfl, rfl, rfl, rfl, rfl⟩, rfl⟩))))))))
     exact dJ rfl
    refine O.no rfl (noB (isF rfl c209) rfl) (O.no rfl (noB (isF rfl c209) rfl) (O.no rfl (noB (isF rfl c209) rfl) (O.pickF (isF rfl c209) (O.nil (⟨⟨?_, rfl, rfl, rfl, rfl, rfl⟩, rfl⟩)))))
    exact dJ rfl
   rintro f_11 ⟨s213_11, s0_11, s3_11, s4_11, s18_11, s24_11⟩
   refine K60 (C.condD s213_11 (fun c213 => ?_) (fun c213 => ?_))
   ·
    refine C.region (O.mv (O.mv (O.mv (O.mv (O.mv ?_)))))
    refine O.call call76 (args5 (Eq.trans s0_11 (Eq.trans s0_10 (Eq.trans s0_6 s0_5))) (Eq.trans s18_11 (Eq.trans s18_10 (Eq.trans s18_6 s18_5))) (Eq.trans s24_11 (Eq.trans s24_10 (Eq.trans s24_6 (Eq.trans rfl (i64_eq (show ((a + e0 + m : Nat) : Int) - ((a + s : Nat) : Int) = ((m + e : Nat) : Int) by omega)))))) (Eq.trans s3_11 (Eq.trans s3_10 (Eq.trans s3_6 s3_5))) (Eq.trans s4_11 (Eq.trans s4_10 (Eq.trans s4_6 s4_5)))) (ih (a + e0) (m + e) b (P ++ M1) (A.drop s) (Y.drop e) T0 _ (by rw [List.length_drop, List.length_drop]; omega) hs1 ((ho.keep e_5).keepM e26 (fun h9 => hcg h9)) ((hlf.keep e_5).keepM e26 (fun k9 hk9 h9 => hFg ((show k9 = g from h9) ▸ hk9))) (by have q9 := hg1.length; simp only [List.length_take] at q9; simp only [List.length_append, List.length_drop]; omega) (by have q9 := hg1.length; simp only [List.length_take] at q9; rw [List.length_append]; omega) (by rw [List.length_drop]; omega) (by rw [List.length_drop]; omega) (by rw [List.length_drop]; omega) (by rw [List.length_drop]; omega) (hM.right s e)) ?_
    rintro v_219 w27 ⟨rfl, ⟨Mv219, hgv219, hsv219⟩, e27⟩
    have z27 := e27.size
    obtain ⟨M2, hg2, hs2⟩ : ∃ M2, Ss.Mgd (Ds.kx l) (A.drop s) (Y.drop e) M2 ∧ OwnF Dt.intF 3 B w27 (.slice (some ⟨g, 0, none⟩) n cap) (P ++ ((M1 ++ M2) ++ T0)) := ⟨_, hgv219, by rw [List.append_assoc, ← List.append_assoc P]; exact hsv219⟩
    refine O.nil (Outs.none rfl ?_)
    first
    | exact ⟨rfl, ⟨_, hM.join hcr hg1 hg2, hs2⟩, (Ext.nw (Ext.nw (Ext.nw (Ext.refl _ _) e_5) e26) e27)⟩
    | exact ⟨rfl, ⟨_, hmg, by rw [← Ss.insW_eq]; exact hs2⟩, (Ext.nw (Ext.nw (Ext.nw (Ext.refl _ _) e_5) e26) e27)⟩
   obtain ⟨M2, hg2, hs2⟩ : ∃ M2, Ss.Mgd (Ds.kx l) (A.drop s) (Y.drop e) M2 ∧ OwnF Dt.intF 3 B w26 (.slice (some ⟨g, 0, none⟩) n cap) (P ++ ((M1 ++ M2) ++ T0)) := ⟨_, (hM.right s e).idle (by rw [List.length_drop, List.length_drop]; omega), by rw [List.append_assoc, List.append_assoc, ← List.append_assoc P]; exact hs1⟩
   refine C.skip (Outs.none rfl ?_)
   first
   | exact ⟨rfl, ⟨_, hM.join hcr hg1 hg2, hs2⟩, (Ext.nw (Ext.nw (Ext.refl _ _) e_5) e26)⟩
   | exact ⟨rfl, ⟨_, hmg, by rw [← Ss.insW_eq]; exact hs2⟩, (Ext.nw (Ext.nw (Ext.refl _ _) e_5) e26)⟩
  obtain ⟨M1, hg1, hs1⟩ : ∃ M1, Ss.Mgd (Ds.kx l) (A.take s) (Y.take e) M1 ∧ OwnF Dt.intF 3 B w19 (.slice (some ⟨g, 0, none⟩) n cap) ((P ++ M1) ++ (A.drop s ++ (Y.drop e ++ T0))) := ⟨_, (hM.left s e).idle (by rw [List.length_take, List.length_take]; omega), by rw [List.append_assoc, List.append_assoc]; exact h0t⟩
  refine C.skip (K58 (C.sr fun K61 => O.mv (O.mv (O.lssI (Eq.trans s18_10 (Eq.trans s18_6 s18_5)) (Eq.trans s24_10 (Eq.trans s24_6 (Eq.trans rfl (i64_eq (show ((a + e0 + m : Nat) : Int) - ((a + s : Nat) : Int) = ((m + e : Nat) : Int) by omega))))) (O.mv (O.cut 4 (fun f f' => f' 213 = .bool (decide (((a + e0 : Nat) : Int) < ((m + e : Nat) : Int) ∧ ((m + e : Nat) : Int) < (b : Int))) ∧ f' 0 = f 0 ∧ f' 3 = f 3 ∧ f' 4 = f 4 ∧ f' 18 = f 18 ∧ f' 24 = f 24) ?_ ?_))))))
  ·
   refine O.splitD (x := .tmp 209) rfl (fun c209 => ?_) (fun c209 => ?_)
   ·
    refine O.yes rfl (isT rfl c209) (O.mv (O.yes rfl (isT rfl c209) (O.mv (O.yes rfl (isT rfl c209) (O.lssI (Eq.trans s24_10 (Eq.trans s24_6 (Eq.trans rfl (i64_eq (show ((a + e0 + m : Nat) : Int) - ((a + s : Nat) : Int) = ((m + e : Nat) : Int) by omega))))) (Eq.trans s3_10 (Eq.trans s3_6 s3_5)) (O.pickT (isT rfl c209) (O.nil (⟨⟨?_, rfl, rfl, rfl, rfl, rfl⟩, rfl⟩))))))))
    exact dJ rfl
   refine O.no rfl (noB (isF rfl c209) rfl) (O.no rfl (noB (isF rfl c209) rfl) (O.no rfl (noB (isF rfl c209) rfl) (O.pickF (isF rfl c209) (O.nil (⟨⟨?_, rfl, rfl, rfl, rfl, rfl⟩, rfl⟩)))))
   exact dJ rfl
  rintro f_12 ⟨s213_12, s0_12, s3_12, s4_12, s18_12, s24_12⟩
  refine K61 (C.condD s213_12 (fun c213 => ?_) (fun c213 => ?_))
  ·
   refine C.region (O.mv (O.mv (O.mv (O.mv (O.mv ?_)))))
   refine O.call call76 (args5 (Eq.trans s0_12 (Eq.trans s0_10 (Eq.trans s0_6 s0_5))) (Eq.trans s18_12 (Eq.trans s18_10 (Eq.trans s18_6 s18_5))) (Eq.trans s24_12 (Eq.trans s24_10 (Eq.trans s24_6 (Eq.trans rfl (i64_eq (show ((a + e0 + m : Nat) : Int) - ((a + s : Nat) : Int) = ((m + e : Nat) : Int) by omega)))))) (Eq.trans s3_12 (Eq.trans s3_10 (Eq.trans s3_6 s3_5))) (Eq.trans s4_12 (Eq.trans s4_10 (Eq.trans s4_6 s4_5)))) (ih (a + e0) (m + e) b (P ++ M1) (A.drop s) (Y.drop e) T0 _ (by rw [List.length_drop, List.length_drop]; omega) hs1 (ho.keep e_5) (hlf.keep e_5) (by have q9 := hg1.length; simp only [List.length_take] at q9; simp only [List.length_append, List.length_drop]; omega) (by have q9 := hg1.length; simp only [List.length_take] at q9; rw [List.length_append]; omega) (by rw [List.length_drop]; omega) (by rw [List.length_drop]; omega) (by rw [List.length_drop]; omega) (by rw [List.length_drop]; omega) (hM.right s e)) ?_
   rintro v_219 w28 ⟨rfl, ⟨Mv219, hgv219, hsv219⟩, e28⟩
   have z28 := e28.size
   obtain ⟨M2, hg2, hs2⟩ : ∃ M2, Ss.Mgd (Ds.kx l) (A.drop s) (Y.drop e) M2 ∧ OwnF Dt.intF 3 B w28 (.slice (some ⟨g, 0, none⟩) n cap) (P ++ ((M1 ++ M2) ++ T0)) := ⟨_, hgv219, by rw [List.append_assoc, ← List.append_assoc P]; exact hsv219⟩
   refine O.nil (Outs.none rfl ?_)
   first
   | exact ⟨rfl, ⟨_, hM.join hcr hg1 hg2, hs2⟩, (Ext.nw (Ext.nw (Ext.refl _ _) e_5) e28)⟩
   | exact ⟨rfl, ⟨_, hmg, by rw [← Ss.insW_eq]; exact hs2⟩, (Ext.nw (Ext.nw (Ext.refl _ _) e_5) e28)⟩
  obtain ⟨M2, hg2, hs2⟩ : ∃ M2, Ss.Mgd (Ds.kx l) (A.drop s) (Y.drop e) M2 ∧ OwnF Dt.intF 3 B w19 (.slice (some ⟨g, 0, none⟩) n cap) (P ++ ((M1 ++ M2) ++ T0)) := ⟨_, (hM.right s e).idle (by rw [List.length_drop, List.length_drop]; omega), by rw [List.append_assoc, List.append_assoc, ← List.append_assoc P]; exact hs1⟩
  refine C.skip (Outs.none rfl ?_)
  first
  | exact ⟨rfl, ⟨_, hM.join hcr hg1 hg2, hs2⟩, (Ext.nw (Ext.refl _ _) e_5)⟩
  | exact ⟨rfl, ⟨_, hmg, by rw [← Ss.insW_eq]; exact hs2⟩, (Ext.nw (Ext.refl _ _) e_5)⟩
 obtain ⟨s0, hs0⟩ : ∃ s0, s0 = 0 := ⟨_, rfl⟩
 obtain ⟨t0, ht0⟩ : ∃ t0, t0 = A.length := ⟨_, rfl⟩
 have hi0 : s0 ≤ t0 ∧ t0 ≤ A.length ∧ t0 ≤ e0 ∧ e0 - s0 ≤ Y.length ∧ (s0 = 0 ∨ e0 - s0 = Y.length ∨ Ss.L (Ds.kx l) (A.getD (s0 - 1) 0) (Y.getD (e0 - s0) 0)) ∧ (t0 = A.length ∨ e0 - t0 = 0 ∨ Ss.L (Ds.kx l) (Y.getD (e0 - 1 - t0) 0) (A.getD t0 0)) := ⟨by omega, by omega, by omega, by omega, .inl (by omega), .inl (by omega)⟩
 refine C.sr fun K62 => O.mv (O.asg (K62 (C.region (O.mv (O.asg (O.nil (K40 (C.sr fun K63 => O.mv (O.subI (Eq.trans rfl (i64_eq (show ((a + e0 : Nat) : Int) + (m : Int) = ((a + e0 + m : Nat) : Int) by omega))) rfl (by unfold InI; omega) (O.asg (K63 (C.sq fun K64 => C.bl fun K65 => ?_))))))))))))
 refine C.loop0 (σ := Nat × Nat) (fun f0 w0 ⟨s, t⟩ f wz => f 20 = .int .i64 (((a + s : Nat) : Int)) ∧ f 21 = .int .i64 (((a + t : Nat) : Int)) ∧ f 0 = f0 0 ∧ f 1 = f0 1 ∧ f 2 = f0 2 ∧ f 3 = f0 3 ∧ f 4 = f0 4 ∧ f 18 = f0 18 ∧ f 19 = f0 19 ∧ f 22 = f0 22 ∧ Le w wz ∧ OwnF Dt.intF 3 B wz (.slice (some ⟨g, 0, none⟩) n cap) (P ++ (A ++ (Y ++ T0))) ∧ s ≤ t ∧ t ≤ A.length ∧ t ≤ e0 ∧ e0 - s ≤ Y.length ∧ (s = 0 ∨ e0 - s = Y.length ∨ Ss.L (Ds.kx l) (A.getD (s - 1) 0) (Y.getD (e0 - s) 0)) ∧ (t = A.length ∨ e0 - t = 0 ∨ Ss.L (Ds.kx l) (Y.getD (e0 - 1 - t) 0) (A.getD t 0))) (fun ⟨s, t⟩ => t - s) (s0, t0) ?_ ?_
 ·
  refine ⟨(Eq.trans rfl (i64_eq (by omega))), (Eq.trans rfl (i64_eq (by omega))), rfl, rfl, rfl, rfl, rfl, rfl, rfl, rfl, (Le.refl _), h, ?_⟩
  exact hi0
 rintro ⟨s, t⟩ f_13 w29 ⟨s20_13, s21_13, s0_13, s1_13, s2_13, s3_13, s4_13, s18_13, s19_13, s22_13, e_13, r0_13, ⟨h1, h2, h2a, h2b, h5, h6⟩⟩
 have z_13 := e_13.size
 have r0_13s := r0_13.sl
 refine C.sq fun K66 => C.sr fun K67 => O.mv (O.mv (O.lssI s20_13 s21_13 (K67 (C.condD rfl (fun c151 => ?_) (fun c151 => ?_)))))
 ·
  refine C.skip (K66 (C.bl fun K68 => C.sr fun K69 => O.mv (O.mv (O.ad s20_13 s21_13 (O.convIU (m' := 64) underlying3 underlying88 rfl rfl rfl (O.shrU (m := 64) (c := 1) rfl rfl rfl rfl (O.convU64I underlying88 underlying3 rfl ?_)))))))
  obtain ⟨u, hu⟩ : ∃ u, u = (s + t) / 2 := ⟨_, rfl⟩
  have hsu : s ≤ u ∧ u < t := by omega
  refine O.cast (v' := .int .i64 ((a + u : Nat) : Int)) (congrArg (Value.int .i64) ((Ss.half64 (by omega) (by omega)).trans (by omega))) (O.asg (K69 (C.sd fun K70 w30 e30 z30 => D.mv 0 rfl (Le.refl _) (D.mv 1 rfl (Le.refl _) (D.mv 2 rfl (Le.refl _) (D.mv 3 rfl (Le.refl _) (D.t 4 rfl (Le.refl _) (fun _ _ _ hN => O.subI (Eq.trans s22_13 (Eq.trans rfl (i64_eq (show ((a + e0 + m : Nat) : Int) - 1 = ((a + e0 + m - 1 : Nat) : Int) by omega)))) rfl (by unfold InI; omega) (O.nil hN)) ?_)))))))
  obtain ⟨a163, h163, hr163⟩ := Sl.at (i := ((m + (e0 - 1 - u) : Nat) : Int)) (P := Tryz.prog) underlying43 sizeOf3 rfl (r0_13s.keep e30) (by omega)
  refine D.t 5 rfl (Le.refl _) (fun _ _ _ hN => O.idxR s0_13 (Eq.trans rfl (i64_eq (show ((a + e0 + m - 1 : Nat) : Int) - ((a + u : Nat) : Int) = ((m + (e0 - 1 - u) : Nat) : Int) by omega))) hr163 (O.nil hN)) (D.t 6 rfl (Le.refl _) (fun _ hw_ _ hN => O.load1F (G := Dt.intF) isAgg3 rfl rfl rfl (h163.keep hw_) (O.nil hN)) (D.mv 7 rfl (Le.refl _) (D.mv 8 rfl (Le.refl _) ?_)))
  obtain ⟨a167, h167, hr167⟩ := Sl.at (i := ((a + u : Nat) : Int)) (P := Tryz.prog) underlying43 sizeOf3 rfl (r0_13s.keep e30) (by omega)
  refine D.t 9 rfl (Le.refl _) (fun _ _ _ hN => O.idxR s0_13 rfl hr167 (O.nil hN)) (D.t 10 rfl (Le.refl _) (fun _ hw_ _ hN => O.load1F (G := Dt.intF) isAgg3 rfl rfl rfl (h167.keep hw_) (O.nil hN)) (D.on 11 rfl rfl ?_))
  refine O.callV (vs := [.int .i64 (Y.getD (e0 - 1 - u) 0), .int .i64 (A.getD u 0)]) call48 s4_13 (args2 (Eq.trans (Eq.trans rfl (Ss.gdv _ _)) (congrArg (Value.int .i64) (Ss.app_right (show e0 - 1 - u < Y.length by omega) (by omega)))) (Eq.trans (Eq.trans rfl (Ss.gdv _ _)) (congrArg (Value.int .i64) (Ss.app_left (show u < A.length by omega) (by omega))))) (cmpS_spec c v0 l F (Y.getD (e0 - 1 - u) 0) (A.getD u 0) _ ((ho.keep e_13).keep e30) ((hlf.keep e_13).keep e30) (hM.ic _ (Ss.getD_mem (by omega))) (hM.ia _ (Ss.getD_mem (by omega)))) ?_
  rintro v_169 w31 ⟨zv169, rfl, hzv169, e31⟩
  have z31 := e31.size
  refine O.nil ⟨e31, D.t 12 rfl e31 (fun _ _ _ hN => O.lssI rfl rfl (O.nil hN)) (D.t 13 rfl e31 (fun _ _ _ hN => O.not rfl (O.nil hN)) (K70 (C.cond rfl (fun c171 => ?_) (fun c171 => ?_))))⟩
  ·
   replace c171 : ¬ zv169 < 0 := by simpa using c171
   have hL : Ss.L (Ds.kx l) (A.getD u 0) (Y.getD (e0 - 1 - u) 0) := Ss.L.not (hM.lt _ (Ss.getD_mem (by omega)) _ (Ss.getD_mem (by omega))) (fun h9 => c171 (hzv169.2 h9))
   have hk9 : (u + 1) ≤ t ∧ t ≤ A.length ∧ t ≤ e0 ∧ e0 - (u + 1) ≤ Y.length ∧ ((u + 1) = 0 ∨ e0 - (u + 1) = Y.length ∨ Ss.L (Ds.kx l) (A.getD ((u + 1) - 1) 0) (Y.getD (e0 - (u + 1)) 0)) ∧ (t = A.length ∨ e0 - t = 0 ∨ Ss.L (Ds.kx l) (Y.getD (e0 - 1 - t) 0) (A.getD t 0)) := ⟨by omega, by omega, by omega, by omega, .inr (.inr (by rw [show e0 - (u + 1) = e0 - 1 - u by omega]; exact hL)), h6⟩
   refine C.region (O.mv (O.ad rfl rfl (O.asg (O.nil (K68 (⟨(u + 1, t), ⟨(Eq.trans rfl (i64_eq (show ((a + u : Nat) : Int) + 1 = ((a + (u + 1) : Nat) : Int) by omega))), s21_13, s0_13, s1_13, s2_13, s3_13, s4_13, s18_13, s19_13, s22_13, (Ext.trans (Ext.trans e_13 e30) e31), ((r0_13.keep e30).keep e31), ?_⟩, by first | omega | (simp only []; omega)⟩))))))
   exact hk9
  replace c171 : zv169 < 0 := by simpa using c171
  have hL : Ss.L (Ds.kx l) (Y.getD (e0 - 1 - u) 0) (A.getD u 0) := .inl (hzv169.1 c171)
  have hk9 : s ≤ u ∧ u ≤ A.length ∧ u ≤ e0 ∧ e0 - s ≤ Y.length ∧ (s = 0 ∨ e0 - s = Y.length ∨ Ss.L (Ds.kx l) (A.getD (s - 1) 0) (Y.getD (e0 - s) 0)) ∧ (u = A.length ∨ e0 - u = 0 ∨ Ss.L (Ds.kx l) (Y.getD (e0 - 1 - u) 0) (A.getD u 0)) := ⟨by omega, by omega, by omega, by omega, h5, .inr (.inr hL)⟩
  refine C.region (O.mv (O.asg (O.nil (K68 (⟨(s, u), ⟨s20_13, rfl, s0_13, s1_13, s2_13, s3_13, s4_13, s18_13, s19_13, s22_13, (Ext.trans (Ext.trans e_13 e30) e31), ((r0_13.keep e30).keep e31), ?_⟩, by first | omega | (simp only []; omega)⟩)))))
  exact hk9
 have hst : s = t := by omega
 rw [← hst] at h6
 obtain ⟨e, he⟩ : ∃ e, e = e0 - s := ⟨_, rfl⟩
 have hsA : s ≤ A.length := by omega
 have heY : e ≤ Y.length := by omega
 have hcr := hM.cross (s := s) (e := e) hsA heY (by rw [he]; exact h5) (by rw [he, show e0 - s - 1 = e0 - 1 - s by omega]; exact h6)
 have h0s : OwnF Dt.intF 3 B w29 (.slice (some ⟨g, 0, none⟩) n cap) ((P ++ A.take s) ++ (A.drop s ++ (Y.take e ++ (Y.drop e ++ T0)))) := by rw [← Ss.sym1]; exact r0_13
 refine C.exit (K65 (K64 (C.sr fun K71 => O.mv (O.mv (O.subI (Eq.trans s19_13 (Eq.trans rfl (i64_eq (show ((a + e0 : Nat) : Int) + (m : Int) = ((a + e0 + m : Nat) : Int) by omega)))) s20_13 (by unfold InI; omega) (O.asg (K71 (C.sq fun K72 => C.sr fun K73 => O.mv (O.mv (O.lssI s20_13 s2_13 (O.mv (O.cut 4 (fun f f' => f' 185 = .bool (decide (((a + s : Nat) : Int) < (m : Int) ∧ (m : Int) < ((m + e : Nat) : Int))) ∧ f' 0 = f 0 ∧ f' 1 = f 1 ∧ f' 2 = f 2 ∧ f' 3 = f 3 ∧ f' 4 = f 4 ∧ f' 18 = f 18 ∧ f' 20 = f 20 ∧ f' 24 = f 24) ?_ ?_))))))))))))
 ·
  refine O.splitD (x := .tmp 181) rfl (fun c181 => ?_) (fun c181 => ?_)
  ·
   refine O.yes rfl (isT rfl c181) (O.mv (O.yes rfl (isT rfl c181) (O.mv (O.yes rfl (isT rfl c181) (O.lssI s2_13 (Eq.trans rfl (i64_eq (show ((a + e0 + m : Nat) : Int) - ((a + s : Nat) : Int) = ((m + e : Nat) : Int) by omega))) (O.pickT (isT rfl c181) (O.nil (⟨⟨?_, rfl, rfl, rfl, rfl, rfl, rfl, rfl, rfl⟩, rfl⟩))))))))
   exact dJ rfl
  refine O.no rfl (noB (isF rfl c181) rfl) (O.no rfl (noB (isF rfl c181) rfl) (O.no rfl (noB (isF rfl c181) rfl) (O.pickF (isF rfl c181) (O.nil (⟨⟨?_, rfl, rfl, rfl, rfl, rfl, rfl, rfl, rfl⟩, rfl⟩)))))
  exact dJ rfl
 rintro f_14 ⟨s185_14, s0_14, s1_14, s2_14, s3_14, s4_14, s18_14, s20_14, s24_14⟩
 refine K73 (C.condD s185_14 (fun c185 => ?_) (fun c185 => ?_))
 ·
  refine C.region (O.mv (O.mv (O.mv (O.mv (O.mv ?_)))))
  refine O.call call97 (args5 (Eq.trans s0_14 s0_13) (Eq.trans s20_14 s20_13) (Eq.trans s2_14 s2_13) (Eq.trans s24_14 (Eq.trans rfl (i64_eq (show ((a + e0 + m : Nat) : Int) - ((a + s : Nat) : Int) = ((m + e : Nat) : Int) by omega)))) (Eq.trans s4_14 s4_13)) (rot_spec g n cap (a + s) m (m + e) B (P ++ A.take s) (A.drop s) (Y.take e) (Y.drop e ++ T0) _ _ h0s (by simp only [List.length_append, List.length_take, List.length_drop]; omega) (by simp only [List.length_append, List.length_take]; omega) (by rw [List.length_drop]; omega) (by rw [List.length_take]; omega) (by rw [List.length_drop]; omega) (by rw [List.length_take]; omega) hn) ?_
  rintro v_191 w32 ⟨rfl, hsv191, e32⟩
  have z32 := e32.size
  have h0t : OwnF Dt.intF 3 B w32 (.slice (some ⟨g, 0, none⟩) n cap) (P ++ (A.take s ++ (Y.take e ++ (A.drop s ++ (Y.drop e ++ T0))))) := by rw [← List.append_assoc]; exact hsv191
  refine O.nil (K72 (C.sq fun K74 => C.sr fun K75 => O.mv (O.mv (O.lssI (Eq.trans s1_14 s1_13) (Eq.trans s20_14 s20_13) (O.mv (O.cut 4 (fun f f' => f' 199 = .bool (decide ((a : Int) < ((a + s : Nat) : Int) ∧ ((a + s : Nat) : Int) < ((a + e0 : Nat) : Int))) ∧ f' 0 = f 0 ∧ f' 1 = f 1 ∧ f' 3 = f 3 ∧ f' 4 = f 4 ∧ f' 18 = f 18 ∧ f' 20 = f 20 ∧ f' 24 = f 24) ?_ ?_))))))
  ·
   refine O.splitD (x := .tmp 195) rfl (fun c195 => ?_) (fun c195 => ?_)
   ·
    refine O.yes rfl (isT rfl c195) (O.mv (O.yes rfl (isT rfl c195) (O.mv (O.yes rfl (isT rfl c195) (O.lssI (Eq.trans s20_14 s20_13) (Eq.trans s18_14 s18_13) (O.pickT (isT rfl c195) (O.nil (⟨⟨?_, rfl, rfl, rfl, rfl, rfl, rfl, rfl⟩, rfl⟩))))))))
    exact dJ rfl
   refine O.no rfl (noB (isF rfl c195) rfl) (O.no rfl (noB (isF rfl c195) rfl) (O.no rfl (noB (isF rfl c195) rfl) (O.pickF (isF rfl c195) (O.nil (⟨⟨?_, rfl, rfl, rfl, rfl, rfl, rfl, rfl⟩, rfl⟩)))))
   exact dJ rfl
  rintro f_15 ⟨s199_15, s0_15, s1_15, s3_15, s4_15, s18_15, s20_15, s24_15⟩
  refine K75 (C.condD s199_15 (fun c199 => ?_) (fun c199 => ?_))
  ·
   refine C.region (O.mv (O.mv (O.mv (O.mv (O.mv ?_)))))
   refine O.call call76 (args5 (Eq.trans s0_15 (Eq.trans s0_14 s0_13)) (Eq.trans s1_15 (Eq.trans s1_14 s1_13)) (Eq.trans s20_15 (Eq.trans s20_14 s20_13)) (Eq.trans s18_15 (Eq.trans s18_14 s18_13)) (Eq.trans s4_15 (Eq.trans s4_14 s4_13))) (ih a (a + s) (a + e0) P (A.take s) (Y.take e) (A.drop s ++ (Y.drop e ++ T0)) _ (by rw [List.length_take, List.length_take]; omega) h0t ((ho.keep e_13).keepM e32 (fun h9 => hcg h9)) ((hlf.keep e_13).keepM e32 (fun k9 hk9 h9 => hFg ((show k9 = g from h9) ▸ hk9))) (by simp only [List.length_append, List.length_take, List.length_drop]; omega) ha (by rw [List.length_take]; omega) (by rw [List.length_take]; omega) (by rw [List.length_take]; omega) (by rw [List.length_take]; omega) (hM.left s e)) ?_
   rintro v_205 w33 ⟨rfl, ⟨Mv205, hgv205, hsv205⟩, e33⟩
   have z33 := e33.size
   obtain ⟨M1, hg1, hs1⟩ : ∃ M1, Ss.Mgd (Ds.kx l) (A.take s) (Y.take e) M1 ∧ OwnF Dt.intF 3 B w33 (.slice (some ⟨g, 0, none⟩) n cap) ((P ++ M1) ++ (A.drop s ++ (Y.drop e ++ T0))) := ⟨_, hgv205, by rw [List.append_assoc]; exact hsv205⟩
   refine O.nil (K74 (C.sr fun K76 => O.mv (O.mv (O.lssI (Eq.trans s18_15 (Eq.trans s18_14 s18_13)) (Eq.trans s24_15 (Eq.trans s24_14 (Eq.trans rfl (i64_eq (show ((a + e0 + m : Nat) : Int) - ((a + s : Nat) : Int) = ((m + e : Nat) : Int) by omega))))) (O.mv (O.cut 4 (fun f f' => f' 213 = .bool (decide (((a + e0 : Nat) : Int) < ((m + e : Nat) : Int) ∧ ((m + e : Nat) : Int) < (b : Int))) ∧ f' 0 = f 0 ∧ f' 3 = f 3 ∧ f' 4 = f 4 ∧ f' 18 = f 18 ∧ f' 24 = f 24) ?_ ?_))))))
   ·
    refine O.splitD (x := .tmp 209) rfl (fun c209 => ?_) (fun c209 => ?_)
    ·
     refine O.yes rfl (isT rfl c209) (O.mv (O.yes rfl (isT rfl c209) (O.mv (O.yes rfl (isT rfl c209) (O.lssI (Eq.trans s24_15 (Eq.trans s24_14 (Eq.trans rfl (i64_eq (show ((a + e0 + m : Nat) : Int) - ((a + s : Nat) : Int) = ((m + e : Nat) : Int) by omega))))) (Eq.trans s3_15 (Eq.trans s3_14 s3_13)) (O.pickT (isT rfl c209) (O.nil (⟨⟨?_, rfl, rfl, rfl, rfl, rfl⟩, rfl⟩))))))))
     exact dJ rfl
    refine O.no rfl (noB (isF rfl c209) rfl) (O.no rfl (noB (isF rfl c209) rfl) (O.no rfl (noB (isF rfl c209) rfl) (O.pickF (isF rfl c209) (O.nil (⟨⟨?_, rfl, rfl, rfl, rfl, rfl⟩, rfl⟩)))))
    exact dJ rfl
   rintro f_16 ⟨s213_16, s0_16, s3_16, s4_16, s18_16, s24_16⟩
   refine K76 (C.condD s213_16 (fun c213 => ?_) (fun c213 => ?_))
   ·
    refine C.region (O.mv (O.mv (O.mv (O.mv (O.mv ?_)))))
    refine O.call call76 (args5 (Eq.trans s0_16 (Eq.trans s0_15 (Eq.trans s0_14 s0_13))) (Eq.trans s18_16 (Eq.trans s18_15 (Eq.trans s18_14 s18_13))) (Eq.trans s24_16 (Eq.trans s24_15 (Eq.trans s24_14 (Eq.trans rfl (i64_eq (show ((a + e0 + m : Nat) : Int) - ((a + s : Nat) : Int) = ((m + e : Nat) : Int) by omega)))))) (Eq.trans s3_16 (Eq.trans s3_15 (Eq.trans s3_14 s3_13))) (Eq.trans s4_16 (Eq.trans s4_15 (Eq.trans s4_14 s4_13)))) (ih (a + e0) (m + e) b (P ++ M1) (A.drop s) (Y.drop e) T0 _ (by rw [List.length_drop, List.length_drop]; omega) hs1 (((ho.keep e_13).keepM e32 (fun h9 => hcg h9)).keepM e33 (fun h9 => hcg h9)) (((hlf.keep e_13).keepM e32 (fun k9 hk9 h9 => hFg ((show k9 = g from h9) ▸ hk9))).keepM e33 (fun k9 hk9 h9 => hFg ((show k9 = g from h9) ▸ hk9))) (by have q9 := hg1.length; simp only [List.length_take] at q9; simp only [List.length_append, List.length_drop]; omega) (by have q9 := hg1.length; simp only [List.length_take] at q9; rw [List.length_append]; omega) (by rw [List.length_drop]; omega) (by rw [List.length_drop]; omega) (by rw [List.length_drop]; omega) (by rw [List.length_drop]; omega) (hM.right s e)) ?_
    rintro v_219 w34 ⟨rfl, ⟨Mv219, hgv219, hsv219⟩, e34⟩
    have z34 := e34.size
    obtain ⟨M2, hg2, hs2⟩ : ∃ M2, Ss.Mgd (Ds.kx l) (A.drop s) (Y.drop e) M2 ∧ OwnF Dt.intF 3 B w34 (.slice (some ⟨g, 0, none⟩) n cap) (P ++ ((M1 ++ M2) ++ T0)) := ⟨_, hgv219, by rw [List.append_assoc, ← List.append_assoc P]; exact hsv219⟩
    refine O.nil (Outs.none rfl ?_)
    first
    | exact ⟨rfl, ⟨_, hM.join hcr hg1 hg2, hs2⟩, (Ext.nw (Ext.nw (Ext.nw (Ext.nw (Ext.refl _ _) e_13) e32) e33) e34)⟩
    | exact ⟨rfl, ⟨_, hmg, by rw [← Ss.insW_eq]; exact hs2⟩, (Ext.nw (Ext.nw (Ext.nw (Ext.nw (Ext.refl _ _) e_13) e32) e33) e34)⟩
   obtain ⟨M2, hg2, hs2⟩ : ∃ M2, Ss.Mgd (Ds.kx l) (A.drop s) (Y.drop e) M2 ∧ OwnF Dt.intF 3 B w33 (.slice (some ⟨g, 0, none⟩) n cap) (P ++ ((M1 ++ M2) ++ T0)) := ⟨_, (hM.right s e).idle (by rw [List.length_drop, List.length_drop]; omega), by rw [List.append_assoc, List.append_assoc, ← List.append_assoc P]; exact hs1⟩
   refine C.skip (Outs.none rfl ?_)
   first
   | exact ⟨rfl, ⟨_, hM.join hcr hg1 hg2, hs2⟩, (Ext.nw (Ext.nw (Ext.nw (Ext.refl _ _) e_13) e32) e33)⟩
   | exact ⟨rfl, ⟨_, hmg, by rw [← Ss.insW_eq]; exact hs2⟩, (Ext.nw (Ext.nw (Ext.nw (Ext.refl _ _) e_13) e32) e33)⟩
  obtain ⟨M1, hg1, hs1⟩ : ∃ M1, Ss.Mgd (Ds.kx l) (A.take s) (Y.take e) M1 ∧ OwnF Dt.intF 3 B w32 (.slice (some ⟨g, 0, none⟩) n cap) ((P ++ M1) ++ (A.drop s ++ (Y.drop e ++ T0))) := ⟨_, (hM.left s e).idle (by rw [List.length_take, List.length_take]; omega), by rw [List.append_assoc, List.append_assoc]; exact h0t⟩
  refine C.skip (K74 (C.sr fun K77 => O.mv (O.mv (O.lssI (Eq.trans s18_15 (Eq.trans s18_14 s18_13)) (Eq.trans s24_15 (Eq.trans s24_14 (Eq.trans rfl (i64_eq (show ((a + e0 + m : Nat) : Int) - ((a + s : Nat) : Int) = ((m + e : Nat) : Int) by omega))))) (O.mv (O.cut 4 (fun f f' => f' 213 = .bool (decide (((a + e0 : Nat) : Int) < ((m + e : Nat) : Int) ∧ ((m + e : Nat) : Int) < (b : Int))) ∧ f' 0 = f 0 ∧ f' 3 = f 3 ∧ f' 4 = f 4 ∧ f' 18 = f 18 ∧ f' 24 = f 24) ?_ ?_))))))
  ·
   refine O.splitD (x := .tmp 209) rfl (fun c209 => ?_) (fun c209 => ?_)
   ·
    refine O.yes rfl (isT rfl c209) (O.mv (O.yes rfl (isT rfl c209) (O.mv (O.yes rfl (isT rfl c209) (O.lssI (Eq.trans s24_15 (Eq.trans s24_14 (Eq.trans rfl (i64_eq (show ((a + e0 + m : Nat) : Int) - ((a + s : Nat) : Int) = ((m + e : Nat) : Int) by omega))))) (Eq.trans s3_15 (Eq.trans s3_14 s3_13)) (O.pickT (isT rfl c209) (O.nil (⟨⟨?_, rfl, rfl, rfl, rfl, rfl⟩, rfl⟩))))))))
    exact dJ rfl
   refine O.no rfl (noB (isF rfl c209) rfl) (O.no rfl (noB (isF rfl c209) rfl) (O.no rfl (noB (isF rfl c209) rfl) (O.pickF (isF rfl c209) (O.nil (⟨⟨?_, rfl, rfl, rfl, rfl, rfl⟩, rfl⟩)))))
   exact dJ rfl
  rintro f_17 ⟨s213_17, s0_17, s3_17, s4_17, s18_17, s24_17⟩
  refine K77 (C.condD s213_17 (fun c213 => ?_) (fun c213 => ?_))
  ·
   refine C.region (O.mv (O.mv (O.mv (O.mv (O.mv ?_)))))
   refine O.call call76 (args5 (Eq.trans s0_17 (Eq.trans s0_15 (Eq.trans s0_14 s0_13))) (Eq.trans s18_17 (Eq.trans s18_15 (Eq.trans s18_14 s18_13))) (Eq.trans s24_17 (Eq.trans s24_15 (Eq.trans s24_14 (Eq.trans rfl (i64_eq (show ((a + e0 + m : Nat) : Int) - ((a + s : Nat) : Int) = ((m + e : Nat) : Int) by omega)))))) (Eq.trans s3_17 (Eq.trans s3_15 (Eq.trans s3_14 s3_13))) (Eq.trans s4_17 (Eq.trans s4_15 (Eq.trans s4_14 s4_13)))) (ih (a + e0) (m + e) b (P ++ M1) (A.drop s) (Y.drop e) T0 _ (by rw [List.length_drop, List.length_drop]; omega) hs1 ((ho.keep e_13).keepM e32 (fun h9 => hcg h9)) ((hlf.keep e_13).keepM e32 (fun k9 hk9 h9 => hFg ((show k9 = g from h9) ▸ hk9))) (by have q9 := hg1.length; simp only [List.length_take] at q9; simp only [List.length_append, List.length_drop]; omega) (by have q9 := hg1.length; simp only [List.length_take] at q9; rw [List.length_append]; omega) (by rw [List.length_drop]; omega) (by rw [List.length_drop]; omega) (by rw [List.length_drop]; omega) (by rw [List.length_drop]; omega) (hM.right s e)) ?_
   rintro v_219 w35 ⟨rfl, ⟨Mv219, hgv219, hsv219⟩, e35⟩
   have z35 := e35.size
   obtain ⟨M2, hg2, hs2⟩ : ∃ M2, Ss.Mgd (Ds.kx l) (A.drop s) (Y.drop e) M2 ∧ OwnF Dt.intF 3 B w35 (.slice (some ⟨g, 0, none⟩) n cap) (P ++ ((M1 ++ M2) ++ T0)) := ⟨_, hgv219, by rw [List.append_assoc, ← List.append_assoc P]; exact hsv219⟩
   refine O.nil (Outs.none rfl ?_)
   first
   | exact ⟨rfl, ⟨_, hM.join hcr hg1 hg2, hs2⟩, (Ext.nw (Ext.nw (Ext.nw (Ext.refl _ _) e_13) e32) e35)⟩
   | exact ⟨rfl, ⟨_, hmg, by rw [← Ss.insW_eq]; exact hs2⟩, (Ext.nw (Ext.nw (Ext.nw (Ext.refl _ _) e_13) e32) e35)⟩
  obtain ⟨M2, hg2, hs2⟩ : ∃ M2, Ss.Mgd (Ds.kx l) (A.drop s) (Y.drop e) M2 ∧ OwnF Dt.intF 3 B w32 (.slice (some ⟨g, 0, none⟩) n cap) (P ++ ((M1 ++ M2) ++ T0)) := ⟨_, (hM.right s e).idle (by rw [List.length_drop, List.length_drop]; omega), by rw [List.append_assoc, List.append_assoc, ← List.append_assoc P]; exact hs1⟩
  refine C.skip (Outs.none rfl ?_)
  first
  | exact ⟨rfl, ⟨_, hM.join hcr hg1 hg2, hs2⟩, (Ext.nw (Ext.nw (Ext.refl _ _) e_13) e32)⟩
  | exact ⟨rfl, ⟨_, hmg, by rw [← Ss.insW_eq]; exact hs2⟩, (Ext.nw (Ext.nw (Ext.refl _ _) e_13) e32)⟩
 have h0t : OwnF Dt.intF 3 B w29 (.slice (some ⟨g, 0, none⟩) n cap) (P ++ (A.take s ++ (Y.take e ++ (A.drop s ++ (Y.drop e ++ T0))))) := by
  rw [← Ss.sym2 (by rw [List.length_drop, List.length_take]; omega)]
  exact h0s
 refine C.skip (K72 (C.sq fun K78 => C.sr fun K79 => O.mv (O.mv (O.lssI (Eq.trans s1_14 s1_13) (Eq.trans s20_14 s20_13) (O.mv (O.cut 4 (fun f f' => f' 199 = .bool (decide ((a : Int) < ((a + s : Nat) : Int) ∧ ((a + s : Nat) : Int) < ((a + e0 : Nat) : Int))) ∧ f' 0 = f 0 ∧ f' 1 = f 1 ∧ f' 3 = f 3 ∧ f' 4 = f 4 ∧ f' 18 = f 18 ∧ f' 20 = f 20 ∧ f' 24 = f 24) ?_ ?_))))))
 ·
  refine O.splitD (x := .tmp 195) rfl (fun c195 => ?_) (fun c195 => ?_)
  ·
   refine O.yes rfl (isT rfl c195) (O.mv (O.yes rfl (isT rfl c195) (O.mv (O.yes rfl (isT rfl c195) (O.lssI (Eq.trans s20_14 s20_13) (Eq.trans s18_14 s18_13) (O.pickT (isT rfl c195) (O.nil (⟨⟨?_, rfl, rfl, rfl, rfl, rfl, rfl, rfl⟩, rfl⟩))))))))
   exact dJ rfl
  refine O.no rfl (noB (isF rfl c195) rfl) (O.no rfl (noB (isF rfl c195) rfl) (O.no rfl (noB (isF rfl c195) rfl) (O.pickF (isF rfl c195) (O.nil (⟨⟨?_, rfl, rfl, rfl, rfl, rfl, rfl, rfl⟩, rfl⟩)))))
  exact dJ rfl
 rintro f_18 ⟨s199_18, s0_18, s1_18, s3_18, s4_18, s18_18, s20_18, s24_18⟩
 refine K79 (C.condD s199_18 (fun c199 => ?_) (fun c199 => ?_))
 ·
  refine C.region (O.mv (O.mv (O.mv (O.mv (O.mv (O.call call76 (args5 (Eq.trans s0_18 (Eq.trans s0_14 s0_13)) (Eq.trans s1_18 (Eq.trans s1_14 s1_13)) (Eq.trans s20_18 (Eq.trans s20_14 s20_13)) (Eq.trans s18_18 (Eq.trans s18_14 s18_13)) (Eq.trans s4_18 (Eq.trans s4_14 s4_13))) (ih a (a + s) (a + e0) P (A.take s) (Y.take e) (A.drop s ++ (Y.drop e ++ T0)) _ (by rw [List.length_take, List.length_take]; omega) h0t (ho.keep e_13) (hlf.keep e_13) (by simp only [List.length_append, List.length_take, List.length_drop]; omega) ha (by rw [List.length_take]; omega) (by rw [List.length_take]; omega) (by rw [List.length_take]; omega) (by rw [List.length_take]; omega) (hM.left s e)) ?_))))))
  rintro v_205 w36 ⟨rfl, ⟨Mv205, hgv205, hsv205⟩, e36⟩
  have z36 := e36.size
  obtain ⟨M1, hg1, hs1⟩ : ∃ M1, Ss.Mgd (Ds.kx l) (A.take s) (Y.take e) M1 ∧ OwnF Dt.intF 3 B w36 (.slice (some ⟨g, 0, none⟩) n cap) ((P ++ M1) ++ (A.drop s ++ (Y.drop e ++ T0))) := ⟨_, hgv205, by rw [List.append_assoc]; exact hsv205⟩
  refine O.nil (K78 (C.sr fun K80 => O.mv (O.mv (O.lssI (Eq.trans s18_18 (Eq.trans s18_14 s18_13)) (Eq.trans s24_18 (Eq.trans s24_14 (Eq.trans rfl (i64_eq (show ((a + e0 + m : Nat) : Int) - ((a + s : Nat) : Int) = ((m + e : Nat) : Int) by omega))))) (O.mv (O.cut 4 (fun f f' => f' 213 = .bool (decide (((a + e0 : Nat) : Int) < ((m + e : Nat) : Int) ∧ ((m + e : Nat) : Int) < (b : Int))) ∧ f' 0 = f 0 ∧ f' 3 = f 3 ∧ f' 4 = f 4 ∧ f' 18 = f 18 ∧ f' 24 = f 24) ?_ ?_))))))
  ·
   refine O.splitD (x := .tmp 209) rfl (fun c209 => ?_) (fun c209 => ?_)
   ·
    refine O.yes rfl (isT rfl c209) (O.mv (O.yes rfl (isT rfl c209) (O.mv (O.yes rfl (isT rfl c209) (O.lssI (Eq.trans s24_18 (Eq.trans s24_14 (Eq.trans rfl (i64_eq (show ((a + e0 + m : Nat) : Int) - ((a + s : Nat) : Int) = ((m + e : Nat) : Int) by omega))))) (Eq.trans s3_18 (Eq.trans s3_14 s3_13)) (O.pickT (isT rfl c209) (O.nil (⟨⟨?_, rfl, rfl, rfl, rfl, rfl⟩, rfl⟩))))))))
    exact dJ rfl
   refine O.no rfl (noB (isF rfl c209) rfl) (O.no rfl (noB (isF rfl c209) rfl) (O.no rfl (noB (isF rfl c209) rfl) (O.pickF (isF rfl c209) (O.nil (⟨⟨?_, rfl, rfl, rfl, rfl, rfl⟩, rfl⟩)))))
   exact dJ rfl
  rintro f_19 ⟨s213_19, s0_19, s3_19, s4_19, s18_19, s24_19⟩
  refine K80 (C.condD s213_19 (fun c213 => ?_) (fun c213 => ?_))
  ·
   refine C.region (O.mv (O.mv (O.mv (O.mv (O.mv ?_)))))
   refine O.call call76 (args5 (Eq.trans s0_19 (Eq.trans s0_18 (Eq.trans s0_14 s0_13))) (Eq.trans s18_19 (Eq.trans s18_18 (Eq.trans s18_14 s18_13))) (Eq.trans s24_19 (Eq.trans s24_18 (Eq.trans s24_14 (Eq.trans rfl (i64_eq (show ((a + e0 + m : Nat) : Int) - ((a + s : Nat) : Int) = ((m + e : Nat) : Int) by omega)))))) (Eq.trans s3_19 (Eq.trans s3_18 (Eq.trans s3_14 s3_13))) (Eq.trans s4_19 (Eq.trans s4_18 (Eq.trans s4_14 s4_13)))) (ih (a + e0) (m + e) b (P ++ M1) (A.drop s) (Y.drop e) T0 _ (by rw [List.length_drop, List.length_drop]; omega) hs1 ((ho.keep e_13).keepM e36 (fun h9 => hcg h9)) ((hlf.keep e_13).keepM e36 (fun k9 hk9 h9 => hFg ((show k9 = g from h9) ▸ hk9))) (by have q9 := hg1.length; simp only [List.length_take] at q9; simp only [List.length_append, List.length_drop]; omega) (by have q9 := hg1.length; simp only [List.length_take] at q9; rw [List.length_append]; omega) (by rw [List.length_drop]; omega) (by rw [List.length_drop]; omega) (by rw [List.length_drop]; omega) (by rw [List.length_drop]; omega) (hM.right s e)) ?_
   rintro v_219 w37 ⟨rfl, ⟨Mv219, hgv219, hsv219⟩, e37⟩
   have z37 := e37.size
   obtain ⟨M2, hg2, hs2⟩ : ∃ M2, Ss.Mgd (Ds.kx l) (A.drop s) (Y.drop e) M2 ∧ OwnF Dt.intF 3 B w37 (.slice (some ⟨g, 0, none⟩) n cap) (P ++ ((M1 ++ M2) ++ T0)) := ⟨_, hgv219, by rw [List.append_assoc, ← List.append_assoc P]; exact hsv219⟩
   refine O.nil (Outs.none rfl ?_)
   first
   | exact ⟨rfl, ⟨_, hM.join hcr hg1 hg2, hs2⟩, (Ext.nw (Ext.nw (Ext.nw (Ext.refl _ _) e_13) e36) e37)⟩
   | exact ⟨rfl, ⟨_, hmg, by rw [← Ss.insW_eq]; exact hs2⟩, (Ext.nw (Ext.nw (Ext.nw (Ext.refl _ _) e_13) e36) e37)⟩
  obtain ⟨M2, hg2, hs2⟩ : ∃ M2, Ss.Mgd (Ds.kx l) (A.drop s) (Y.drop e) M2 ∧ OwnF Dt.intF 3 B w36 (.slice (some ⟨g, 0, none⟩) n cap) (P ++ ((M1 ++ M2) ++ T0)) := ⟨_, (hM.right s e).idle (by rw [List.length_drop, List.length_drop]; omega), by rw [List.append_assoc, List.append_assoc, ← List.append_assoc P]; exact hs1⟩
  refine C.skip (Outs.none rfl ?_)
  first
  | exact ⟨rfl, ⟨_, hM.join hcr hg1 hg2, hs2⟩, (Ext.nw (Ext.nw (Ext.refl _ _) e_13) e36)⟩
  | exact ⟨rfl, ⟨_, hmg, by rw [← Ss.insW_eq]; exact hs2⟩, (Ext.nw (Ext.nw (Ext.refl _ _) e_13) e36)⟩
 obtain ⟨M1, hg1, hs1⟩ : ∃ M1, Ss.Mgd (Ds.kx l) (A.take s) (Y.take e) M1 ∧ OwnF Dt.intF 3 B w29 (.slice (some ⟨g, 0, none⟩) n cap) ((P ++ M1) ++ (A.drop s ++ (Y.drop e ++ T0))) := ⟨_, (hM.left s e).idle (by rw [List.length_take, List.length_take]; omega), by rw [List.append_assoc, List.append_assoc]; exact h0t⟩
 refine C.skip (K78 (C.sr fun K81 => O.mv (O.mv (O.lssI (Eq.trans s18_18 (Eq.trans s18_14 s18_13)) (Eq.trans s24_18 (Eq.trans s24_14 (Eq.trans rfl (i64_eq (show ((a + e0 + m : Nat) : Int) - ((a + s : Nat) : Int) = ((m + e : Nat) : Int) by omega))))) (O.mv (O.cut 4 (fun f f' => f' 213 = .bool (decide (((a + e0 : Nat) : Int) < ((m + e : Nat) : Int) ∧ ((m + e : Nat) : Int) < (b : Int))) ∧ f' 0 = f 0 ∧ f' 3 = f 3 ∧ f' 4 = f 4 ∧ f' 18 = f 18 ∧ f' 24 = f 24) ?_ ?_))))))
 ·
  refine O.splitD (x := .tmp 209) rfl (fun c209 => ?_) (fun c209 => ?_)
  ·
   refine O.yes rfl (isT rfl c209) (O.mv (O.yes rfl (isT rfl c209) (O.mv (O.yes rfl (isT rfl c209) (O.lssI (Eq.trans s24_18 (Eq.trans s24_14 (Eq.trans rfl (i64_eq (show ((a + e0 + m : Nat) : Int) - ((a + s : Nat) : Int) = ((m + e : Nat) : Int) by omega))))) (Eq.trans s3_18 (Eq.trans s3_14 s3_13)) (O.pickT (isT rfl c209) (O.nil (⟨⟨?_, rfl, rfl, rfl, rfl, rfl⟩, rfl⟩))))))))
   exact dJ rfl
  refine O.no rfl (noB (isF rfl c209) rfl) (O.no rfl (noB (isF rfl c209) rfl) (O.no rfl (noB (isF rfl c209) rfl) (O.pickF (isF rfl c209) (O.nil (⟨⟨?_, rfl, rfl, rfl, rfl, rfl⟩, rfl⟩)))))
  exact dJ rfl
 rintro f_20 ⟨s213_20, s0_20, s3_20, s4_20, s18_20, s24_20⟩
 refine K81 (C.condD s213_20 (fun c213 => ?_) (fun c213 => ?_))
 ·
  refine C.region (O.mv (O.mv (O.mv (O.mv (O.mv ?_)))))
  refine O.call call76 (args5 (Eq.trans s0_20 (Eq.trans s0_18 (Eq.trans s0_14 s0_13))) (Eq.trans s18_20 (Eq.trans s18_18 (Eq.trans s18_14 s18_13))) (Eq.trans s24_20 (Eq.trans s24_18 (Eq.trans s24_14 (Eq.trans rfl (i64_eq (show ((a + e0 + m : Nat) : Int) - ((a + s : Nat) : Int) = ((m + e : Nat) : Int) by omega)))))) (Eq.trans s3_20 (Eq.trans s3_18 (Eq.trans s3_14 s3_13))) (Eq.trans s4_20 (Eq.trans s4_18 (Eq.trans s4_14 s4_13)))) (ih (a + e0) (m + e) b (P ++ M1) (A.drop s) (Y.drop e) T0 _ (by rw [List.length_drop, List.length_drop]; omega) hs1 (ho.keep e_13) (hlf.keep e_13) (by have q9 := hg1.length; simp only [List.length_take] at q9; simp only [List.length_append, List.length_drop]; omega) (by have q9 := hg1.length; simp only [List.length_take] at q9; rw [List.length_append]; omega) (by rw [List.length_drop]; omega) (by rw [List.length_drop]; omega) (by rw [List.length_drop]; omega) (by rw [List.length_drop]; omega) (hM.right s e)) ?_
  rintro v_219 w38 ⟨rfl, ⟨Mv219, hgv219, hsv219⟩, e38⟩
  have z38 := e38.size
  obtain ⟨M2, hg2, hs2⟩ : ∃ M2, Ss.Mgd (Ds.kx l) (A.drop s) (Y.drop e) M2 ∧ OwnF Dt.intF 3 B w38 (.slice (some ⟨g, 0, none⟩) n cap) (P ++ ((M1 ++ M2) ++ T0)) := ⟨_, hgv219, by rw [List.append_assoc, ← List.append_assoc P]; exact hsv219⟩
  refine O.nil (Outs.none rfl ?_)
  first
  | exact ⟨rfl, ⟨_, hM.join hcr hg1 hg2, hs2⟩, (Ext.nw (Ext.nw (Ext.refl _ _) e_13) e38)⟩
  | exact ⟨rfl, ⟨_, hmg, by rw [← Ss.insW_eq]; exact hs2⟩, (Ext.nw (Ext.nw (Ext.refl _ _) e_13) e38)⟩
 obtain ⟨M2, hg2, hs2⟩ : ∃ M2, Ss.Mgd (Ds.kx l) (A.drop s) (Y.drop e) M2 ∧ OwnF Dt.intF 3 B w29 (.slice (some ⟨g, 0, none⟩) n cap) (P ++ ((M1 ++ M2) ++ T0)) := ⟨_, (hM.right s e).idle (by rw [List.length_drop, List.length_drop]; omega), by rw [List.append_assoc, List.append_assoc, ← List.append_assoc P]; exact hs1⟩
 refine C.skip (Outs.none rfl ?_)
 first
 | exact ⟨rfl, ⟨_, hM.join hcr hg1 hg2, hs2⟩, (Ext.nw (Ext.refl _ _) e_13)⟩
 | exact ⟨rfl, ⟨_, hmg, by rw [← Ss.insW_eq]; exact hs2⟩, (Ext.nw (Ext.refl _ _) e_13)⟩
theorem symM_spec (g n cap a m b B : Nat) (P A Y T0 : List Int) (c : Nat) (v0 : Value) (l : List (BitVec 64)) (F : Nat → Prop) (w : World) (h : OwnF Dt.intF 3 B w (.slice (some ⟨g, 0, none⟩) n cap) (P ++ (A ++ (Y ++ T0)))) (ho : Own w c 37 [v0]) (hlf : Sl flE w F v0 l) (hcg : c ≠ g) (hFg : ¬ F g) (hl : P.length + A.length + Y.length + T0.length = n) (ha : a = P.length) (hm : m = a + A.length) (hb : b = m + Y.length) (hA : 0 < A.length) (hY : 0 < Y.length) (hM : Ss.Mg (Ds.kx l) l.length A Y) (hn : n ≤ 1000000) : Ret Tryz.prog 76 #[.slice (some ⟨g, 0, none⟩) n cap, .int .i64 (a : Int), .int .i64 (m : Int), .int .i64 (b : Int), .func (.func 48) #[] #[.pointer (some ⟨c, 0, none⟩)]] w (fun v w' => v = .tuple #[] ∧ (∃ M, Ss.Mgd (Ds.kx l) A Y M ∧ OwnF Dt.intF 3 B w' (.slice (some ⟨g, 0, none⟩) n cap) (P ++ (M ++ T0))) ∧ Ext (fun j => j = g) w w') := by
 obtain ⟨z, hz⟩ : ∃ z, A.length + Y.length = z := ⟨_, rfl⟩
 induction z using Nat.strongRecOn generalizing a m b P A Y T0 w with
 | _ z ih => exact symS_spec g n cap a m b B z P A Y T0 c v0 l F w h ho hlf hcg hFg hl ha hm hb hA hY hM hn hz (fun a m b P A Y T0 w hlt h ho hlf hl ha hm hb hA hY hM => ih _ hlt a m b P A Y T0 w h ho hlf hl ha hm hb hA hY hM rfl)
end Go.Proofs.YtbadfphdniliaaaGreatDoor
end
section
namespace Go.Proofs.YtbadfphdniliaaaGreatDoor
open Go.Pn Go.RowKit Go.Proofs _root_.Go.Proofs.Tryz
attribute [local irreducible] O C D
set_option maxHeartbeats 2000000 in
theorem stbS_spec (g n cap B : Nat) (c : Nat) (v0 : Value) (l : List (BitVec 64)) (F : Nat → Prop) (w : World) (h : OwnF Dt.intF 3 B w (.slice (some ⟨g, 0, none⟩) n cap) (Ss.iota 0 n)) (ho : Own w c 37 [v0]) (hlf : Sl flE w F v0 l) (hcg : c ≠ g) (hFg : ¬ F g) (hnl : l.length = n) (hn : n ≤ 1000000) :
 Ret Tryz.prog 64 #[.slice (some ⟨g, 0, none⟩) n cap, .int .i64 ((n : Int)), .func (.func 48) #[] #[.pointer (some ⟨c, 0, none⟩)]] w (fun v w' => v = .tuple #[] ∧ (∃ M, Ss.Asc (Ds.kx l) M ∧ M.Perm (Ss.iota 0 n) ∧ OwnF Dt.intF 3 B w' (.slice (some ⟨g, 0, none⟩) n cap) (M)) ∧ Ext (fun j => j = g) w w') := by
 refine enT [.slice (some ⟨g, 0, none⟩) n cap, .int .i64 ((n : Int)), .func (.func 48) #[] #[.pointer (some ⟨c, 0, none⟩)]] 63 func64 rfl rfl (C.sr fun K1 => O.asg (K1 (C.sr fun K2 => O.mv (O.asg (O.asg (K2 (C.sq fun K3 => C.bl fun K4 => C.loop0 (σ := Nat × List Int) (fun f0 w0 ⟨a, xs⟩ f wz => f 7 = .int .i64 ((a : Int)) ∧ f 8 = .int .i64 (((a + 20 : Nat) : Int)) ∧ f 0 = f0 0 ∧ f 1 = f0 1 ∧ f 2 = f0 2 ∧ f 6 = f0 6 ∧ Ext (fun j => j = g) w wz ∧ OwnF Dt.intF 3 B wz (.slice (some ⟨g, 0, none⟩) n cap) (xs) ∧ Ss.Ph1 (Ds.kx l) n a xs) (fun ⟨a, xs⟩ => n - a) (0, Ss.iota 0 n) ?_ ?_)))))))
 ·
  refine ⟨(Eq.trans rfl (i64_eq (by omega))), (Eq.trans rfl (i64_eq (by omega))), rfl, rfl, rfl, rfl, (Ext.refl _ _), h, ?_⟩
  exact Ss.ph1_start _ n
 rintro ⟨a, xs⟩ f_1 w1 ⟨s7_1, s8_1, s0_1, s1_1, s2_1, s6_1, e_1, r0_1, hP⟩
 have z_1 := e_1.size
 have r0_1s := r0_1.sl
 have hxl := hP.2.1
 have han := hP.2.2.1
 refine C.sq fun K5 => C.sr fun K6 => O.mv (O.mv (O.leqI s8_1 s1_1 (K6 (C.condD rfl (fun c13 => ?_) (fun c13 => ?_)))))
 ·
  refine C.skip (K5 (C.bl fun K7 => C.sr fun K8 => O.mv (O.mv (O.mv (O.mv ?_)))))
  refine O.call call75 (args4 s0_1 s7_1 s8_1 s2_1) (insS_spec g n cap a (a + 20) B (xs.take a) ((xs.drop a).take 20) (xs.drop (a + 20)) c v0 l F _ (by have q := r0_1; rw [← Ss.seg_same xs a 20] at q; exact q) (ho.keepM e_1 (fun h9 => hcg h9)) (hlf.keepM e_1 (fun k9 hk9 h9 => hFg ((show k9 = g from h9) ▸ hk9))) hcg hFg (by simp only [List.length_take, List.length_drop]; omega) (by simp only [List.length_take]; omega) (by simp only [List.length_take, List.length_drop]; omega) hn (by rw [Ss.ph1_row hP (by omega)]; exact Ss.iota_lt _ _) (fun x hx => by rw [Ss.ph1_row hP (by omega)] at hx; have := Ss.mem_iota hx; omega)) ?_
  rintro v_18 w2 ⟨rfl, ⟨Mv18, hav18, hpv18, hsv18⟩, e2⟩
  have z2 := e2.size
  refine K8 (C.sr fun K9 => O.mv (O.asg (K9 (C.region (O.mv (O.mv (O.ad s8_1 s6_1 (O.asg (O.nil (K7 (⟨(a + 20, Ss.seg xs Mv18 a (a + 20)), ⟨s8_1, (Eq.trans rfl (i64_eq (show ((a + 20 : Nat) : Int) + 20 = ((a + 20 + 20 : Nat) : Int) by omega))), s0_1, s1_1, s2_1, s6_1, (Ext.nw (Ext.nw (Ext.refl _ _) e_1) e2), hsv18, ?_⟩, by first | omega | (simp only []; omega)⟩)))))))))))
  exact Ss.ph1_step hP (by omega) hav18 hpv18
 refine C.exit (K4 (K3 (C.sr fun K10 => O.mv (O.mv (O.mv (O.mv (O.call call75 (args4 s0_1 s7_1 s1_1 s2_1) (insS_spec g n cap a n B (xs.take a) (xs.drop a) [] c v0 l F _ (by have q := r0_1; rw [List.append_nil, List.take_append_drop]; exact q) (ho.keepM e_1 (fun h9 => hcg h9)) (hlf.keepM e_1 (fun k9 hk9 h9 => hFg ((show k9 = g from h9) ▸ hk9))) hcg hFg (by simp only [List.length_take, List.length_drop, List.length_nil]; omega) (by simp only [List.length_take]; omega) (by simp only [List.length_drop]; omega) hn (by rw [hP.2.2.2.2]; exact Ss.iota_lt _ _) (fun x hx => by rw [hP.2.2.2.2] at hx; have := Ss.mem_iota hx; omega)) ?_)))))))
 rintro v_27 w3 ⟨rfl, ⟨Mv27, hav27, hpv27, hsv27⟩, e3⟩
 have z3 := e3.size
 have hall := Ss.ph1_end hP (by omega) hav27 hpv27
 obtain ⟨ys, hys⟩ : ∃ ys, ys = xs.take a ++ (Mv27 ++ []) := ⟨_, rfl⟩
 rw [← hys] at hall hsv27
 refine K10 (C.bl fun K11 => C.loop0 (σ := Nat × List Int) (fun f0 w0 ⟨s, xz⟩ f wz => f 6 = .int .i64 ((s : Int)) ∧ f 0 = f0 0 ∧ f 1 = f0 1 ∧ f 2 = f0 2 ∧ Ext (fun j => j = g) w wz ∧ OwnF Dt.intF 3 B wz (.slice (some ⟨g, 0, none⟩) n cap) (xz) ∧ 0 < s ∧ s ≤ 2 * n + 20 ∧ Ss.AllB (Ds.kx l) s n xz) (fun ⟨s, xz⟩ => n - s) (20, ys) ?_ ?_)
 ·
  refine ⟨(Eq.trans s6_1 (i64_eq (by omega))), rfl, rfl, rfl, (Ext.nw (Ext.nw (Ext.refl _ _) e_1) e3), hsv27, ?_⟩
  exact ⟨by omega, by omega, hall⟩
 rintro ⟨s, xz⟩ f_2 w4 ⟨s6_2, s0_2, s1_2, s2_2, e_2, r0_2, ⟨hs0, hs2, hAll⟩⟩
 have z_2 := e_2.size
 have r0_2s := r0_2.sl
 refine C.sq fun K12 => C.sr fun K13 => O.mv (O.mv (O.lssI s6_2 (Eq.trans s1_2 s1_1) (K13 (C.condD rfl (fun c30 => ?_) (fun c30 => ?_)))))
 ·
  refine C.skip (K12 (C.bl fun K14 => C.sr fun K15 => O.mv (O.mulI rfl s6_2 (by unfold InI; omega) (O.asg (O.asg (K15 (C.sq fun K16 => C.bl fun K17 => C.loop0 (σ := Nat × List Int) (fun f0 w0 ⟨a, xs⟩ f wz => f 7 = .int .i64 ((a : Int)) ∧ f 8 = .int .i64 (((a + 2 * s : Nat) : Int)) ∧ f 0 = f0 0 ∧ f 1 = f0 1 ∧ f 2 = f0 2 ∧ f 6 = f0 6 ∧ Ext (fun j => j = g) w wz ∧ OwnF Dt.intF 3 B wz (.slice (some ⟨g, 0, none⟩) n cap) (xs) ∧ Ss.Ph2 (Ds.kx l) s n a xs) (fun ⟨a, xs⟩ => n - a) (0, xz) ?_ ?_)))))))
  ·
   refine ⟨(Eq.trans rfl (i64_eq (by omega))), (Eq.trans (Eq.trans rfl (i64_eq (show (2 : Int) * (s : Int) = ((2 * s : Nat) : Int) by omega))) (i64_eq (by omega))), rfl, rfl, rfl, rfl, (Ext.nw (Ext.refl _ _) e_2), r0_2, ?_⟩
   exact Ss.ph2_start hAll
  rintro ⟨a, xs⟩ f_3 w5 ⟨s7_3, s8_3, s0_3, s1_3, s2_3, s6_3, e_3, r0_3, hP⟩
  have z_3 := e_3.size
  have r0_3s := r0_3.sl
  have hxl := hP.2.1
  have han := hP.2.2.1
  refine C.sq fun K18 => C.sr fun K19 => O.mv (O.mv (O.leqI s8_3 (Eq.trans s1_3 (Eq.trans s1_2 s1_1)) (K19 (C.condD rfl (fun c35 => ?_) (fun c35 => ?_)))))
  ·
   refine C.skip (K18 (C.bl fun K20 => C.sr fun K21 => O.mv (O.mv (O.mv (O.mv (O.ad s7_3 (Eq.trans s6_3 s6_2) (O.mv (O.mv ?_))))))))
   refine O.call call76 (args5 (Eq.trans s0_3 (Eq.trans s0_2 s0_1)) s7_3 (Eq.trans rfl (i64_eq (show (a : Int) + (s : Int) = ((a + s : Nat) : Int) by omega))) s8_3 (Eq.trans s2_3 (Eq.trans s2_2 s2_1))) (symM_spec g n cap a (a + s) (a + 2 * s) B (xs.take a) ((xs.drop a).take s) ((xs.drop (a + s)).take s) (xs.drop (a + 2 * s)) c v0 l F _ (by have q := r0_3; rw [Ss.seg_same2]; exact q) (ho.keepM e_3 (fun h9 => hcg h9)) (hlf.keepM e_3 (fun k9 hk9 h9 => hFg ((show k9 = g from h9) ▸ hk9))) hcg hFg (by simp only [List.length_take, List.length_drop]; omega) (by simp only [List.length_take]; omega) (by simp only [List.length_take, List.length_drop]; omega) (by simp only [List.length_take, List.length_drop]; omega) (by simp only [List.length_take, List.length_drop]; omega) (by simp only [List.length_take, List.length_drop]; omega) (Ss.Bl.mg (Ss.ph2_a hP) (by rw [show ((xs.drop a).take s).length = s by simp only [List.length_take, List.length_drop]; omega]; exact Ss.ph2_c hP) (by simp only [List.length_take, List.length_drop]; omega)) hn) ?_
   rintro v_43 w6 ⟨rfl, ⟨Mv43, hgv43, hsv43⟩, e6⟩
   have z6 := e6.size
   refine K21 (C.sr fun K22 => O.mv (O.asg (K22 (C.region (O.mv (O.mv (O.mulI rfl (Eq.trans s6_3 s6_2) (by unfold InI; omega) (O.addI s8_3 (Eq.trans rfl (i64_eq (show (2 : Int) * (s : Int) = ((2 * s : Nat) : Int) by omega))) (by unfold InI; omega) (O.asg (O.nil (K20 (⟨(a + 2 * s, Ss.seg xs Mv43 a (a + 2 * s)), ⟨s8_3, (Eq.trans rfl (i64_eq (show ((a + 2 * s : Nat) : Int) + ((2 * s : Nat) : Int) = ((a + 2 * s + 2 * s : Nat) : Int) by omega))), s0_3, s1_3, s2_3, s6_3, (Ext.nw (Ext.nw (Ext.refl _ _) e_3) e6), hsv43, ?_⟩, by first | omega | (simp only []; omega)⟩))))))))))))
   exact Ss.ph2_step hP hs0 (by omega) hgv43
  refine C.exit (K17 (K16 (C.sq fun K23 => C.sr fun K24 => O.mv (O.mv (O.ad s7_3 (Eq.trans s6_3 s6_2) (O.asg (K24 (C.sr fun K25 => O.mv (O.mv (O.lssI (Eq.trans rfl (i64_eq (show (a : Int) + (s : Int) = ((a + s : Nat) : Int) by omega))) (Eq.trans s1_3 (Eq.trans s1_2 s1_1)) (K25 (C.condD rfl (fun c54 => ?_) (fun c54 => ?_)))))))))))))
  ·
   refine C.region (O.mv (O.mv (O.mv (O.mv (O.mv ?_)))))
   refine O.call call76 (args5 (Eq.trans s0_3 (Eq.trans s0_2 s0_1)) s7_3 (Eq.trans rfl (i64_eq (show (a : Int) + (s : Int) = ((a + s : Nat) : Int) by omega))) (Eq.trans s1_3 (Eq.trans s1_2 s1_1)) (Eq.trans s2_3 (Eq.trans s2_2 s2_1))) (symM_spec g n cap a (a + s) n B (xs.take a) ((xs.drop a).take s) (xs.drop (a + s)) [] c v0 l F _ (by have q := r0_3; rw [List.append_nil]; rw [← Ss.seg_same xs a s] at q; exact q) (ho.keepM e_3 (fun h9 => hcg h9)) (hlf.keepM e_3 (fun k9 hk9 h9 => hFg ((show k9 = g from h9) ▸ hk9))) hcg hFg (by simp only [List.length_take, List.length_drop, List.length_nil]; omega) (by simp only [List.length_take]; omega) (by simp only [List.length_take, List.length_drop]; omega) (by simp only [List.length_drop]; omega) (by simp only [List.length_take, List.length_drop]; omega) (by simp only [List.length_drop]; omega) (Ss.Bl.mg (Ss.ph2_a hP) (by rw [show ((xs.drop a).take s).length = s by simp only [List.length_take, List.length_drop]; omega]; have q9 := Ss.ph2_c hP; rw [List.take_of_length_le (by simp only [List.length_drop]; omega)] at q9; exact q9) (by simp only [List.length_take, List.length_drop]; omega)) hn) ?_
   rintro v_60 w7 ⟨rfl, ⟨Mv60, hgv60, hsv60⟩, e7⟩
   have z7 := e7.size
   have hk9 : 0 < 2 * s ∧ 2 * s ≤ 2 * n + 20 ∧ Ss.AllB (Ds.kx l) (2 * s) n (xs.take a ++ (Mv60 ++ [])) := ⟨by omega, by omega, Ss.ph2_end1 hP (by omega) (by omega) hgv60⟩
   refine O.nil (K23 (C.region (O.mv (O.mulI (Eq.trans s6_3 s6_2) rfl (by unfold InI; omega) (O.asg (O.nil (K14 (⟨(2 * s, xs.take a ++ (Mv60 ++ [])), ⟨(Eq.trans rfl (i64_eq (show (s : Int) * 2 = ((2 * s : Nat) : Int) by omega))), (Eq.trans s0_3 s0_2), (Eq.trans s1_3 s1_2), (Eq.trans s2_3 s2_2), (Ext.nw (Ext.nw (Ext.refl _ _) e_3) e7), hsv60, ?_⟩, by first | omega | (simp only []; omega)⟩))))))))
   exact hk9
  have hk9 : 0 < 2 * s ∧ 2 * s ≤ 2 * n + 20 ∧ Ss.AllB (Ds.kx l) (2 * s) n xs := ⟨by omega, by omega, Ss.ph2_end2 hP (by omega)⟩
  refine C.skip (K23 (C.region (O.mv (O.mulI (Eq.trans s6_3 s6_2) rfl (by unfold InI; omega) (O.asg (O.nil (K14 (⟨(2 * s, xs), ⟨(Eq.trans rfl (i64_eq (show (s : Int) * 2 = ((2 * s : Nat) : Int) by omega))), (Eq.trans s0_3 s0_2), (Eq.trans s1_3 s1_2), (Eq.trans s2_3 s2_2), (Ext.nw (Ext.refl _ _) e_3), r0_3, ?_⟩, by first | omega | (simp only []; omega)⟩))))))))
  exact hk9
 have hfin := Ss.all_end hAll (by omega)
 refine C.exit (K11 (Outs.none rfl ?_))
 exact ⟨rfl, ⟨_, hfin.1, hfin.2, r0_2⟩, (Ext.nw (Ext.refl _ _) e_2)⟩
theorem stfS_spec (g n cap B : Nat) (c : Nat) (v0 : Value) (l : List (BitVec 64)) (F : Nat → Prop) (w : World) (h : OwnF Dt.intF 3 B w (.slice (some ⟨g, 0, none⟩) n cap) (Ss.iota 0 n)) (ho : Own w c 37 [v0]) (hlf : Sl flE w F v0 l) (hcg : c ≠ g) (hFg : ¬ F g) (hnl : l.length = n) (hn : n ≤ 1000000) :
 Ret Tryz.prog 47 #[.slice (some ⟨g, 0, none⟩) n cap, .func (.func 48) #[] #[.pointer (some ⟨c, 0, none⟩)]] w (fun v w' => v = .tuple #[] ∧ (∃ M, Ss.Asc (Ds.kx l) M ∧ M.Perm (Ss.iota 0 n) ∧ OwnF Dt.intF 3 B w' (.slice (some ⟨g, 0, none⟩) n cap) (M)) ∧ Ext (fun j => j = g) w w') := by
 refine enT [.slice (some ⟨g, 0, none⟩) n cap, .func (.func 48) #[] #[.pointer (some ⟨c, 0, none⟩)]] 9 func47 rfl rfl (C.region (O.mv (O.mv (O.lenL underlying43 rfl (O.cast (v' := .int .i64 ((n : Nat) : Int)) rfl (O.mv (O.call call64 (args3 rfl rfl rfl) (stbS_spec g n cap B c v0 l F _ h ho hlf hcg hFg hnl hn) ?_)))))))
 rintro v_8 w1 ⟨rfl, ⟨Mv8, hav8, hpv8, hsv8⟩, e1⟩
 have z1 := e1.size
 refine O.nil (Outs.none rfl ?_)
 exact ⟨rfl, ⟨_, hav8, hpv8, hsv8⟩, (Ext.nw (Ext.refl _ _) e1)⟩
end Go.Proofs.YtbadfphdniliaaaGreatDoor
end
section
namespace Go.Proofs.YtbadfphdniliaaaGreatDoor
open Go.Pn Go.RowKit Go.Proofs _root_.Go.Proofs.Tryz
attribute [local irreducible] O C D
theorem _root_.Go.Pn.Ds.fillR_iota (n : Nat) : Ds.fillR n n = Ss.iota 0 n := by
 unfold Ds.fillR Ss.iota
 rw [Nat.sub_self, List.replicate_zero, List.append_nil]
 simp
theorem rankN_spec (p0 : Option Addr × Nat × Nat) (l : List (BitVec 64)) (F : Nat → Prop) (w : World) (hl : Sl flE w F (slv p0) l) (hlm : 1000 < l.length) :
 Ret Tryz.prog 34 #[slv p0] w (fun v w' => v = .tuple #[.slice none 0 0, .int .i64 5] ∧ Le w w') := by
 refine enT [slv p0] 26 func34 rfl rfl (C.sr fun K1 => O.box (v := slv p0) rfl (fun b1 w1 hb1 hz1 e1 => ?_))
 have z1 := e1.size
 have h1 := hz1.own
 have hl1 := h1.lt
 refine O.asg (O.asg (K1 (C.sq fun K2 => C.sr fun K3 => O.loadO isAgg37 rfl h1 rfl (O.len underlying37 rfl (hl.keep e1) (O.gtrI rfl rfl (O.cast (v' := .bool true) (congrArg Value.bool (by exact decide_eq_true (by omega))) (K3 (C.condT rfl (C.sr fun K4 => O.asg (O.asg (K4 (C.ret (Outs.two rfl rfl rfl ?_)))))))))))))
 exact ⟨rfl, e1⟩
set_option maxHeartbeats 1000000 in
theorem rankL_spec (p0 : Option Addr × Nat × Nat) (l : List (BitVec 64)) (F : Nat → Prop) (w : World) (hl : Sl flE w F (slv p0) l) (hF : ∀ k, F k → k < w.heap.size) (hlm : l.length ≤ 1000) :
 Ret Tryz.prog 34 #[slv p0] w (fun v w' => Le w w' ∧ ∃ u M, v = .tuple #[u, .int .i64 0] ∧ Ss.Asc (Ds.kx l) M ∧ M.Perm (Ss.iota 0 l.length) ∧ OwnF Dt.intF 3 w.heap.size w' u M) := by
 have _hF9 := hF
 obtain ⟨ie3, ti3, ts3, tb3, tz3⟩ := inf3
 refine enT [slv p0] 26 func34 rfl rfl (C.sr fun K1 => O.box (v := slv p0) rfl (fun b1 w1 hb1 hz1 e1 => ?_))
 have z1 := e1.size
 have h1 := hz1.own
 have hl1 := h1.lt
 refine O.asg (O.asg (K1 (C.sq fun K2 => C.sr fun K3 => O.loadO isAgg37 rfl h1 rfl (O.len underlying37 rfl (hl.keep e1) (O.gtrI rfl rfl (O.cast (v' := .bool false) (congrArg Value.bool (by exact decide_eq_false (by omega))) (K3 (C.condF rfl (C.skip (K2 (C.sr fun K4 => O.loadO isAgg37 rfl h1 rfl (O.len underlying37 rfl (hl.keep e1) (O.mkF (G := Dt.intF) (zx := (0 : Int)) underlying43 ti3 tz3 ts3 rfl rfl rfl (by rw [tb3]; omega) (by unfold maxLen; omega) (Nat.le_refl _) (fun b11 w2 hb11 hz11 ho11 e2 => ?_))))))))))))))
 have z2 := e2.size
 have ho11s := ho11.sl
 have ho11z : OwnF Dt.intF 3 w1.heap.size w2 (.slice (some ⟨b11, 0, none⟩) l.length l.length) (Ds.fillR l.length 0) := by rw [Ds.fillR_zero]; exact ho11
 refine O.asg (K4 (C.sq fun K5 => C.sr fun K6 => O.mv (O.lenL underlying43 rfl (O.mv (K6 (C.bl fun K7 => C.loop0 (σ := Nat) (fun f0 w0 k f w => f 14 = .int .i64 ((k : Int)) ∧ f 1 = f0 1 ∧ f 2 = f0 2 ∧ f 3 = f0 3 ∧ f 4 = f0 4 ∧ f 13 = f0 13 ∧ Ext (fun i => i = b11) w0 w ∧ OwnF Dt.intF 3 w1.heap.size w (.slice (some ⟨b11, 0, none⟩) l.length l.length) (Ds.fillR l.length k) ∧ k ≤ l.length) (fun k => l.length - k) 0 ?_ ?_))))))
 ·
  refine ⟨rfl, rfl, rfl, rfl, rfl, rfl, Ext.refl _ _, ho11z, ?_⟩
  exact Nat.zero_le _
 rintro k f_1 w3 ⟨s14_1, s1_1, s2_1, s3_1, s4_1, s13_1, e_1, r0_1, hk⟩
 have z_1 := e_1.size
 have r0_1s := r0_1.sl
 refine C.sr fun K8 => O.lssI s14_1 s13_1 (K8 (C.sq fun K9 => C.condD rfl (fun c15 => ?_) (fun c15 => ?_)))
 ·
  refine C.skip (K9 (C.sq fun K10 => C.bl fun K11 => C.sr fun K12 => O.mv (O.asg (K12 (C.region (O.mv (O.mv (O.mv ?_))))))))
  obtain ⟨g20, cap20, hv20⟩ := OwnF.ptr r0_1 (by rw [Ds.fillR_length hk]; omega)
  have ho20 := r0_1
  rw [hv20] at ho20
  refine O.idxO underlying43 sizeOf3 (Eq.trans s4_1 hv20) s14_1 (by rw [Ds.fillR_length hk]; omega) (O.storeF (G := Dt.intF) ((k : Int)) sizeOf3 rfl (fun _ => rfl) rfl rfl s14_1 ho20 (by rw [Ds.fillR_length hk]; omega) (fun w4 hs4 e4 z4 => ?_))
  rw [← hv20] at hs4
  replace e4 : Ext (fun i => i = b11) w3 w4 := e4.mono (fun k _ hk => by have h9 := (Value.slice.inj hv20).1; cases h9; exact hk)
  simp only [Int.toNat_natCast, Nat.zero_add, Nat.mul_one] at hs4
  refine O.nil (K11 (K10 (C.region (O.ad s14_1 rfl (O.mv (O.nil (⟨k + 1, ⟨rfl, s1_1, s2_1, s3_1, s4_1, s13_1, (Ext.trans e_1 (e4)), (by rw [← Ds.fillR_set (show k < l.length by omega)]; exact hs4), ?_⟩, by first | omega | (simp only []; omega)⟩)))))))
  omega
 obtain rfl : k = l.length := by omega
 refine C.exit (K7 (K5 (C.sr fun K13 => O.mv (O.makeF (v1 := []) (v2 := [.pointer (some ⟨b1, 0, none⟩)]) rfl (args1 s1_1) ?_))))
 have t0 := Ext.nr (Ext.trans e1 e2) e_1
 refine O.call call47 (args2 s4_1 rfl) (stfS_spec b11 l.length l.length _ b1 (slv p0) l F _ (by have q := r0_1; rw [Ds.fillR_iota] at q; exact q) ((h1.keep e2).keepO e_1) (hl.keep t0) (by have := (r0_1).bk_ge b11 rfl; omega) (fun hk2 => by have := (r0_1).bk_ge b11 rfl; have := hF b11 hk2; omega) rfl (by omega)) ?_
 rintro v_24 w5 ⟨rfl, ⟨Mv24, hav24, hpv24, hsv24⟩, e5⟩
 have z5 := e5.size
 refine K13 (C.sr fun K14 => O.mv (O.asg (O.asg (K14 (C.ret (Outs.two rfl s4_1 rfl ?_))))))
 exact ⟨(Ext.new t0 e5 (by intro i hi h; have h0 : i = b11 := h; have := (r0_1).bk_ge b11 rfl; omega)), _, _, rfl, hav24, hpv24, (hsv24).low (by omega)⟩
theorem ranksN_spec (p0 : Option Addr × Nat × Nat) (l : List (BitVec 64)) (F : Nat → Prop) (w : World) (hl : Sl flE w F (slv p0) l) (hlm : 1000 < l.length) :
 Ret Tryz.prog 20 #[slv p0, .slice none 0 0, .int .i64 (5)] w (fun v w' => v = .bool true ∧ Le w w') := by
 refine enT [slv p0, .slice none 0 0, .int .i64 (5)] 40 func20 rfl rfl (C.sr fun K1 => O.asg (K1 (C.sr fun K2 => O.mv (O.call call34 (args1 rfl) (rankN_spec p0 l F _ hl hlm) ?_))))
 rintro v_12 w1 ⟨rfl, e1⟩
 have z1 := e1.size
 refine O.mv (O.extract rfl rfl (O.extract rfl rfl (O.asg (O.asg (K2 (C.sq fun K3 => C.sr fun K4 => O.mv (O.lenL underlying43 rfl (O.mv (O.lenL underlying43 rfl (O.neqI rfl rfl (O.cast (v' := .bool false) (congrArg Value.bool (by exact decide_eq_false (fun h => h rfl))) (O.mv (O.yes rfl rfl (O.mv (O.yes rfl rfl (O.mv (O.yes rfl rfl (O.neqI rfl rfl (O.cast (v' := .bool false) (congrArg Value.bool (by exact decide_eq_false (fun h => h rfl))) (O.pickF rfl (K4 (C.condF rfl (C.skip (K3 (C.sq fun K5 => C.sr fun K6 => O.asg (K6 (C.bl fun K7 => ?_)))))))))))))))))))))))))))
 refine C.loop0 (σ := Nat) (fun f0 w0 k f w => f 9 = .int .i64 ((k : Int)) ∧ f 1 = f0 1 ∧ f 7 = f0 7 ∧ Le w0 w ∧ k = 0) (fun k => 1 - k) 0 ?_ ?_
 ·
  refine ⟨rfl, rfl, rfl, Le.refl _, ?_⟩
  exact rfl
 rintro k f_1 w2 ⟨s9_1, s1_1, s7_1, e_1, hk⟩
 have z_1 := e_1.size
 refine C.sq fun K8 => C.sr fun K9 => O.mv (O.mv (O.lenL underlying43 s7_1 (O.lssI s9_1 rfl (O.cast (v' := .bool false) (congrArg Value.bool (by exact decide_eq_false (by omega))) (K9 (C.condF rfl (C.exit (K7 (K5 (C.sr fun K10 => O.asg (K10 (C.ret (Outs.one rfl rfl ?_)))))))))))))
 exact ⟨rfl, (Ext.trans e1 e_1)⟩
theorem ranksL_spec (p0 : Option Addr × Nat × Nat) (l : List (BitVec 64)) (F : Nat → Prop) (v1 : Value) (ws : List Int) (F2 : Nat → Prop) (w : World) (hl : Sl flE w F (slv p0) l) (hF : ∀ k, F k → k < w.heap.size) (hw : Sl Dt.intF.enc w F2 v1 ws) (hlm : l.length ≤ 1000) (hwl : ws.length = l.length) (hr : ∀ M, Ss.Asc (Ds.kx l) M → M.Perm (Ss.iota 0 l.length) → M = ws) :
 Ret Tryz.prog 20 #[slv p0, v1, .int .i64 (0)] w (fun v w' => v = .bool true ∧ Le w w') := by
 refine enT [slv p0, v1, .int .i64 (0)] 40 func20 rfl rfl (C.sr fun K1 => O.asg (K1 (C.sr fun K2 => O.mv (O.call call34 (args1 rfl) (rankL_spec p0 l F _ hl (fun j hj => by have q1 := hF j hj; omega) hlm) ?_))))
 rintro v_12 w1 ⟨e1, uv12, Mv12, rfl, hav12, hpv12, hv12⟩
 have z1 := e1.size
 rw [hr _ hav12 hpv12] at hv12
 have h12s := hv12.sl
 refine O.mv (O.extract rfl rfl (O.extract rfl rfl (O.asg (O.asg (K2 (C.sq fun K3 => C.sr fun K4 => O.mv (O.len underlying43 rfl h12s (O.mv (O.len underlying43 rfl (hw.keep e1) (O.neqI rfl rfl (O.cast (v' := .bool false) (congrArg Value.bool (by exact decide_eq_false (fun h => h rfl))) (O.mv (O.yes rfl rfl (O.mv (O.yes rfl rfl (O.mv (O.yes rfl rfl (O.neqI rfl rfl (O.cast (v' := .bool false) (congrArg Value.bool (by exact decide_eq_false (fun h => h rfl))) (O.pickF rfl (K4 (C.condF rfl (C.skip (K3 (C.sq fun K5 => C.sr fun K6 => O.asg (K6 (C.bl fun K7 => ?_)))))))))))))))))))))))))))
 refine C.loop0 (σ := Nat) (fun f0 w0 k f w => f 9 = .int .i64 (k) ∧ f 1 = f0 1 ∧ f 7 = f0 7 ∧ Le w0 w ∧ k ≤ ws.length) (fun k => ws.length - k) 0 ?_ ?_
 ·
  refine ⟨rfl, rfl, rfl, Le.refl _, ?_⟩
  exact Nat.zero_le _
 rintro k f_1 w2 ⟨s9_1, s1_1, s7_1, e_1, hk⟩
 have z_1 := e_1.size
 refine C.sq fun K8 => C.sr fun K9 => O.mv (O.mv (O.len underlying43 s7_1 (h12s.keep e_1) (O.lssI s9_1 rfl (K9 (C.condD rfl (fun c28 => ?_) (fun c28 => ?_))))))
 ·
  have hk2 : k < ws.length := by omega
  refine C.skip (K8 (C.sq fun K10 => C.bl fun K11 => C.sd fun K12 w3 e3 z3 => D.mv 0 rfl (Le.refl _) (D.mv 1 rfl (Le.refl _) ?_)))
  obtain ⟨a33, h33, hr33⟩ := Sl.at (i := (k : Int)) (P := Tryz.prog) underlying43 sizeOf3 rfl ((h12s.keep e_1).keep e3) (by omega)
  refine D.t 2 rfl (Le.refl _) (fun _ _ _ hN => O.idxR s7_1 s9_1 hr33 (O.nil hN)) (D.t 3 rfl (Le.refl _) (fun _ hw_ _ hN => O.load1F (G := Dt.intF) isAgg3 rfl rfl rfl (h33.keep hw_) (O.nil hN)) (D.mv 4 rfl (Le.refl _) (D.mv 5 rfl (Le.refl _) ?_)))
  obtain ⟨a37, h37, hr37⟩ := Sl.at (i := (k : Int)) (P := Tryz.prog) underlying43 sizeOf3 rfl (((hw.keep e1).keep e_1).keep e3) (by omega)
  refine D.t 6 rfl (Le.refl _) (fun _ _ _ hN => O.idxR s1_1 s9_1 hr37 (O.nil hN)) (D.t 7 rfl (Le.refl _) (fun _ hw_ _ hN => O.load1F (G := Dt.intF) isAgg3 rfl rfl rfl (h37.keep hw_) (O.nil hN)) (D.t 8 rfl (Le.refl _) (fun _ _ _ hN => O.neqI rfl rfl (O.nil hN)) (D.cast (v' := .bool false) (congrArg Value.bool (by exact decide_eq_false (fun h => h rfl))) (K12 (C.condF rfl (C.skip (K11 (K10 (C.region (O.mv (O.ad s9_1 rfl (O.asg (O.nil (⟨k + 1, ⟨rfl, s1_1, s7_1, (Ext.trans e_1 e3), ?_⟩, by first | omega | (simp only []; omega)⟩))))))))))))))
  omega
 refine C.exit (K7 (K5 (C.sr fun K13 => O.asg (K13 (C.ret (Outs.one rfl rfl ?_))))))
 exact ⟨rfl, (Ext.trans e1 e_1)⟩
end Go.Proofs.YtbadfphdniliaaaGreatDoor
end
