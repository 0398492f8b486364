/-
  DERIVED: THE SHELF's CONTRACTS AT THIS DUMP, IN PLAIN WORDS (tools/lay-plain.mjs out of 'TryzShelfP.lean', which tools/lay-shelf.mjs wrote): THE SAME DECLARATIONS UNDER THE SAME NAMES: 'import', 'namespace', 'open', 'def', 'theorem' AND NOTHING ELSE: no command of the shelf's: FOR A HAND-IN. Each laying: the table of numbers ('.._ren') and one theorem, a field a fact of the dump's own or the kernel's comparison; each contract: ONE APPLICATION.
-/
import Derived.Shelf.Strings.Trim
import Derived.Shelf.Small.Utf8
import Derived.Shelf.Small.Bits
import Derived.Shelf.Small.Strs
import Derived.Shelf.Small.Wraps
import Derived.Shelf.Strconv.Itoa0
import Derived.Shelf.Strings.Search1
import Derived.Shelf.Strings.Search2
import Derived.Shelf.Strings.Search3
import Derived.Shelf.LaysM
import Derived.Shelf.Strings.Shaped
import Derived.Shelf.Unicode.Decode
import Derived.Shelf.Strings.Runes
import Derived.Shelf.Strings.AsciiSet
import Derived.Shelf.Unicode.DecodeSlow
import Derived.Shelf.Unicode.DecodeAny
import Derived.Ground.Names2Prog
import Derived.Shelf.Slices.SearchI
import Derived.Ground.SlsfProg
import Derived.Shelf.SlSortCmp.Insertion
import Derived.Shelf.SlSortCmp.SiftDown1
import Derived.Shelf.SlSortCmp.HeapSort1
import Derived.Shelf.SlSortCmp.Insertion1
import Derived.Shelf.SlSortCmp.Median1
import Derived.Shelf.SlSortCmp.Pivot1
import Derived.Shelf.SlSortCmp.ReverseRange1
import Derived.Shelf.SlSortCmp.PartialInsertion1
import Derived.Shelf.SlSortCmp.PartitionEqual1
import Derived.Shelf.SlSortCmp.Partition1
import Derived.Shelf.SlSortCmp.Pdq1
import Derived.Shelf.SlSortCmp.Whole1
import Derived.Test.YtbadfphdniliaaaGreatDoorProg
import Derived.Test.YtbadfphdniliaaaGreatDoorDiscountHoldsM1
import Derived.Test.YtbadfphdniliaaaGreatDoorRows
import Derived.Shelf.SlLaysF
import Derived.Test.YtbadfphdniliaaaGreatDoorDiscountHoldsM2
import Derived.Test.YtbadfphdniliaaaGreatDoorCards
import Derived.Test.YtbadfphdniliaaaGreatDoorTie
section
namespace Go.Proofs
open Go.Shelf
def Tryz.lays160_ren : Go.Shelf.Ren := ⟨fun | 160 => 45 | 232 => 57 | 231 => 56 | 227 => 58 | 234 => 60 | 233 => 59 | 236 => 62 | 235 => 61 | 228 => 70 | 271 => 73 | 151 => 72 | 197 => 71 | 120 => 92 | 152 => 91 | 260 => 90 | 137 => 105 | 119 => 106 | 224 => 95 | 225 => 94 | 217 => 93 | 266 => 107 | n => n, fun | 9 => 9 | 4 => 4 | 3 => 3 | 5 => 5 | 117 => 80 | 116 => 79 | 0 => 0 | 124 => 83 | 21 => 21 | 105 => 91 | 46 => 88 | 119 => 119 | 139 => 122 | 138 => 121 | n => n, fun | 3 => 2 | 4 => 3 | n => n⟩
theorem Tryz.lays160 : Go.Proofs.Lays.n160 Tryz.prog Tryz.lays160_ren := {
  mixed := by kernel_rfl
  f119 := Tryz.func106.trans (congrArg some (by kernel_rfl))
  f120 := Tryz.func92.trans (congrArg some (by kernel_rfl))
  f137 := Tryz.func105.trans (congrArg some (by kernel_rfl))
  f151 := Tryz.func72.trans (congrArg some (by kernel_rfl))
  f152 := Tryz.func91.trans (congrArg some (by kernel_rfl))
  f160 := Tryz.func45.trans (congrArg some (by kernel_rfl))
  f197 := Tryz.func71.trans (congrArg some (by kernel_rfl))
  f217 := Tryz.func93.trans (congrArg some (by kernel_rfl))
  f224 := Tryz.func95.trans (congrArg some (by kernel_rfl))
  f225 := Tryz.func94.trans (congrArg some (by kernel_rfl))
  f227 := Tryz.func58.trans (congrArg some (by kernel_rfl))
  f228 := Tryz.func70.trans (congrArg some (by kernel_rfl))
  f231 := Tryz.func56.trans (congrArg some (by kernel_rfl))
  f232 := Tryz.func57.trans (congrArg some (by kernel_rfl))
  f233 := Tryz.func59.trans (congrArg some (by kernel_rfl))
  f234 := Tryz.func60.trans (congrArg some (by kernel_rfl))
  f235 := Tryz.func61.trans (congrArg some (by kernel_rfl))
  f236 := Tryz.func62.trans (congrArg some (by kernel_rfl))
  f260 := Tryz.func90.trans (congrArg some (by kernel_rfl))
  f266 := Tryz.func107.trans (congrArg some (by kernel_rfl))
  f271 := Tryz.func73.trans (congrArg some (by kernel_rfl))
  t0 := Tryz.underlying0
  a0 := Tryz.isAgg0
  z0 := Tryz.sizeOf0
  v0 := Tryz.zeroValue0
  t3 := Tryz.underlying3
  a3 := Tryz.isAgg3
  z3 := Tryz.sizeOf3
  v3 := Tryz.zeroValue3
  t4 := Tryz.underlying4
  a4 := Tryz.isAgg4
  z4 := Tryz.sizeOf4
  v4 := Tryz.zeroValue4
  t5 := Tryz.underlying5
  a5 := Tryz.isAgg5
  z5 := Tryz.sizeOf5
  v5 := Tryz.zeroValue5
  t9 := Tryz.underlying9
  a9 := Tryz.isAgg9
  z9 := Tryz.sizeOf9
  v9 := Tryz.zeroValue9
  t21 := Tryz.underlying21
  a21 := Tryz.isAgg21
  z21 := Tryz.sizeOf21
  v21 := Tryz.zeroValue21
  t46 := Tryz.underlying88
  a46 := Tryz.isAgg88
  z46 := Tryz.sizeOf88
  v46 := Tryz.zeroValue88
  t105 := Tryz.underlying91
  a105 := Tryz.isAgg91
  z105 := Tryz.sizeOf91
  v105 := Tryz.zeroValue91
  t116 := Tryz.underlying79
  a116 := Tryz.isAgg79
  z116 := Tryz.sizeOf79
  t117 := Tryz.underlying80
  a117 := Tryz.isAgg80
  z117 := Tryz.sizeOf80
  v117 := Tryz.zeroValue80
  t119 := Tryz.underlying119
  a119 := Tryz.isAgg119
  z119 := Tryz.sizeOf119
  t124 := Tryz.underlying83
  a124 := Tryz.isAgg83
  z124 := Tryz.sizeOf83
  v124 := Tryz.zeroValue83
  t138 := Tryz.underlying121
  a138 := Tryz.isAgg121
  z138 := Tryz.sizeOf121
  v138 := Tryz.zeroValue121
  t139 := Tryz.underlying122
  a139 := Tryz.isAgg122
  z139 := Tryz.sizeOf122
  v139 := Tryz.zeroValue122
  g3 := by kernel_rfl
  g4 := by kernel_rfl }
open Go.RowKit in
/-- strings.Trim: "Trim returns a slice of the string s with all leading and trailing Unicode code points contained in cutset removed.": AT A cutset OF ONE ASCII BYTE. THE WORLD BEHIND IT: as it was, or (where s is not empty) with ONE DRAW MORE off the tape: the statement 'return trimLeftByte(trimRightByte(s, c), c)' draws its order of evaluation. (LAID: no walk: one application.) -/
theorem Tryz.strings_Trim_one (s : ByteArray) (c : UInt8) (hc : c.toNat < 128) (w : World) (hs : s.size ≤ 9223372036854775807) :
    Calls Tryz.prog 45 #[.string s, .string ⟨#[c]⟩] w fun e w' => e = .returned (.string ⟨(Lib.trimB s.data.toList c).toArray⟩) ∧ (w' = w ∨ w' = w.drew) := Any.strings_Trim_one Tryz.lays160 s c hc w hs
def Tryz.lays125_ren : Go.Shelf.Ren := ⟨fun | 125 => 66 | 128 => 85 | 129 => 86 | n => n, fun | 46 => 88 | 3 => 3 | 51 => 105 | 53 => 55 | 4 => 4 | 5 => 5 | 9 => 9 | n => n, fun | n => n⟩
theorem Tryz.lays125 : Go.Proofs.Lays.n125 Tryz.prog Tryz.lays125_ren := {
  mixed := by kernel_rfl
  f125 := Tryz.func66.trans (congrArg some (by kernel_rfl))
  f128 := Tryz.func85.trans (congrArg some (by kernel_rfl))
  f129 := Tryz.func86.trans (congrArg some (by kernel_rfl))
  t3 := Tryz.underlying3
  a3 := Tryz.isAgg3
  z3 := Tryz.sizeOf3
  v3 := Tryz.zeroValue3
  t4 := Tryz.underlying4
  a4 := Tryz.isAgg4
  z4 := Tryz.sizeOf4
  v4 := Tryz.zeroValue4
  t5 := Tryz.underlying5
  a5 := Tryz.isAgg5
  z5 := Tryz.sizeOf5
  v5 := Tryz.zeroValue5
  t9 := Tryz.underlying9
  a9 := Tryz.isAgg9
  z9 := Tryz.sizeOf9
  v9 := Tryz.zeroValue9
  t46 := Tryz.underlying88
  a46 := Tryz.isAgg88
  z46 := Tryz.sizeOf88
  v46 := Tryz.zeroValue88
  t51 := Tryz.underlying105
  a51 := Tryz.isAgg105
  z51 := Tryz.sizeOf105
  v51 := Tryz.zeroValue105
  t53 := Tryz.underlying55
  a53 := Tryz.isAgg55
  z53 := Tryz.sizeOf55
  v53 := Tryz.zeroValue55 }
/-- bits.Len: "Len returns the minimum number of bits required to represent x; the result is 0 for x == 0.": IT RETURNS 'Lib.bitLen x'; the world is as it was. (A uint has 64 bits in the model.) ITS CALLEE bits.Len64 IS MET BY ITS OWN CONTRACT OFF THE SHELF (lay that first). (LAID: no walk: one application.) -/
theorem Tryz.bits_Len (x : Int) (w : World) (h0 : 0 ≤ x) (h1 : x ≤ 18446744073709551615) :
    Calls Tryz.prog 66 #[.int .u64 x] w fun e w' => e = .returned (.int .i64 (Lib.bitLen x.toNat)) ∧ w' = w := Any.bits_Len Tryz.lays125 x w h0 h1
def Tryz.lays144_ren : Go.Shelf.Ren := ⟨fun | 144 => 46 | 143 => 63 | 219 => 74 | 217 => 93 | 225 => 94 | 224 => 95 | 267 => 96 | 266 => 107 | 314 => 108 | n => n, fun | 9 => 9 | 4 => 4 | 3 => 3 | 5 => 5 | 46 => 88 | 146 => 124 | 51 => 105 | n => n, fun | 1 => 1 | n => n⟩
theorem Tryz.lays144 : Go.Proofs.Lays.n144 Tryz.prog Tryz.lays144_ren := {
  mixed := by kernel_rfl
  f143 := Tryz.func63.trans (congrArg some (by kernel_rfl))
  f144 := Tryz.func46.trans (congrArg some (by kernel_rfl))
  f217 := Tryz.func93.trans (congrArg some (by kernel_rfl))
  f219 := Tryz.func74.trans (congrArg some (by kernel_rfl))
  f224 := Tryz.func95.trans (congrArg some (by kernel_rfl))
  f225 := Tryz.func94.trans (congrArg some (by kernel_rfl))
  f266 := Tryz.func107.trans (congrArg some (by kernel_rfl))
  f267 := Tryz.func96.trans (congrArg some (by kernel_rfl))
  f314 := Tryz.func108.trans (congrArg some (by kernel_rfl))
  t3 := Tryz.underlying3
  a3 := Tryz.isAgg3
  z3 := Tryz.sizeOf3
  v3 := Tryz.zeroValue3
  t4 := Tryz.underlying4
  a4 := Tryz.isAgg4
  z4 := Tryz.sizeOf4
  v4 := Tryz.zeroValue4
  t5 := Tryz.underlying5
  a5 := Tryz.isAgg5
  z5 := Tryz.sizeOf5
  v5 := Tryz.zeroValue5
  t9 := Tryz.underlying9
  a9 := Tryz.isAgg9
  z9 := Tryz.sizeOf9
  v9 := Tryz.zeroValue9
  t46 := Tryz.underlying88
  a46 := Tryz.isAgg88
  z46 := Tryz.sizeOf88
  v46 := Tryz.zeroValue88
  t51 := Tryz.underlying105
  a51 := Tryz.isAgg105
  z51 := Tryz.sizeOf105
  v51 := Tryz.zeroValue105
  t146 := Tryz.underlying124
  a146 := Tryz.isAgg124
  z146 := Tryz.sizeOf124
  v146 := Tryz.zeroValue124
  g1 := by kernel_rfl }
open Go.RowKit Go.Lib in
/-- strings.Contains: "Contains reports whether substr is within s.": IT RETURNS 'Lib.contains s substr'; the world is as it was. (LAID: no walk: one application.) -/
theorem Tryz.strings_Contains (s sub : ByteArray) (m : Int) (w : World) (hs : s.size < 4294967281) (hm : w.cell? ⟨1, 0, none⟩ = some (.int .i64 m)) :
    Calls Tryz.prog 46 #[.string s, .string sub] w fun e w' => e = .returned (.bool (Lib.contains s.data.toList sub.data.toList)) ∧ w' = w := Any.strings_Contains Tryz.lays144 s sub m w hs hm
def Tryz.laysM144_ren : Go.Shelf.Ren := ⟨fun | 144 => 46 | 143 => 63 | 219 => 74 | 217 => 93 | 225 => 94 | 224 => 95 | 267 => 96 | 266 => 107 | 314 => 108 | n => n, fun | 9 => 9 | 4 => 4 | 3 => 3 | 5 => 5 | 46 => 88 | 146 => 124 | 51 => 105 | n => n, fun | 1 => 1 | n => n⟩
theorem Tryz.laysM144 : Go.Proofs.LaysM.n144 Tryz.prog Tryz.laysM144_ren := {
  mixed := by kernel_rfl
  f143 := Tryz.func63.trans (congrArg some (by kernel_rfl))
  f144 := Tryz.func46.trans (congrArg some (by kernel_rfl))
  f217 := Tryz.func93.trans (congrArg some (by kernel_rfl))
  f219 := Tryz.func74.trans (congrArg some (by kernel_rfl))
  f224 := Tryz.func95.trans (congrArg some (by kernel_rfl))
  f225 := Tryz.func94.trans (congrArg some (by kernel_rfl))
  f266 := Tryz.func107.trans (congrArg some (by kernel_rfl))
  f267 := Tryz.func96.trans (congrArg some (by kernel_rfl))
  f314 := Tryz.func108.trans (congrArg some (by kernel_rfl))
  t3 := Tryz.underlying3
  a3 := Tryz.isAgg3
  z3 := Tryz.sizeOf3
  v3 := Tryz.zeroValue3
  t4 := Tryz.underlying4
  a4 := Tryz.isAgg4
  z4 := Tryz.sizeOf4
  v4 := Tryz.zeroValue4
  t5 := Tryz.underlying5
  a5 := Tryz.isAgg5
  z5 := Tryz.sizeOf5
  v5 := Tryz.zeroValue5
  t9 := Tryz.underlying9
  a9 := Tryz.isAgg9
  z9 := Tryz.sizeOf9
  v9 := Tryz.zeroValue9
  t46 := Tryz.underlying88
  a46 := Tryz.isAgg88
  z46 := Tryz.sizeOf88
  v46 := Tryz.zeroValue88
  t51 := Tryz.underlying105
  a51 := Tryz.isAgg105
  z51 := Tryz.sizeOf105
  v51 := Tryz.zeroValue105
  t146 := Tryz.underlying124
  a146 := Tryz.isAgg124
  z146 := Tryz.sizeOf124
  v146 := Tryz.zeroValue124
  g1 := by kernel_rfl
  i3 := by kernel_rfl
  i4 := by kernel_rfl
  i5 := by kernel_rfl
  i9 := by kernel_rfl
  i46 := by kernel_rfl
  i51 := by kernel_rfl
  i146 := by kernel_rfl
  m1 := by kernel_rfl
  s1_3 := fun w h => Go.Proofs.cell_of_shapedOpen_int (zero := #[.int .i64 0]) (t := 3) h (of_decide_eq_true (by kernel_rfl)) (by kernel_rfl) rfl (by kernel_rfl) (by kernel_rfl) Tryz.underlying3 }
def Tryz.laysSlF20_f75_ren : Go.Shelf.Ren := ⟨fun | 20 => 75 | n => n, fun | 24 => 3 | 22 => 43 | 3 => 3 | 25 => 68 | 4 => 4 | 0 => 0 | n => n, fun | n => n⟩
theorem Tryz.laysSlF20_f75 : Go.Proofs.SlLaysF.n20 Tryz.prog Tryz.laysSlF20_f75_ren := {
  mixed := by kernel_rfl
  f20 := ⟨Tryz.f75.name, by decide, Tryz.func75.trans (congrArg some (by kernel_rfl))⟩
  t0 := Tryz.underlying0
  a0 := Tryz.isAgg0
  z0 := Tryz.sizeOf0
  v0 := Tryz.zeroValue0
  t3 := Tryz.underlying3
  a3 := Tryz.isAgg3
  z3 := Tryz.sizeOf3
  v3 := Tryz.zeroValue3
  t4 := Tryz.underlying4
  a4 := Tryz.isAgg4
  z4 := Tryz.sizeOf4
  v4 := Tryz.zeroValue4
  t22 := Tryz.underlying43
  a22 := Tryz.isAgg43
  z22 := Tryz.sizeOf43
  v22 := Tryz.zeroValue43
  a24 := Tryz.isAgg3
  z24 := Tryz.sizeOf3
  t25 := Tryz.underlying68
  a25 := Tryz.isAgg68
  z25 := Tryz.sizeOf68
  v25 := Tryz.zeroValue68 }
open Go.RowKit Go.Lib Go.Sort in
/-- slices.insertionSortCmpFunc at elements of one cell: from a world of the sort's to a world of the sort's. (LAID AT THE INSTANCE 'slices.insertionSortCmpFunc[int]': no walk: one application.) -/
theorem Tryz.insertionSortCmpFunc_s_f75 {α : Type} [Inhabited α] (enc : α → Value) (cf : α → α → Int) (g : Nat) (cb : Array Value) (blk off cap a b : Nat) (d0 d : Array α) (w0 w : World) (eg : ∀ args w, (callFunc g args).run Tryz.prog w = .ok (.enter g args) w) (hcmp : CmpLays1 Tryz.prog g cb enc cf blk off d0.size w0) (R : Row1 enc w0 blk off d0) (hs : d0.size = d.size) (S : SW enc w0 blk off d w) (hab : a ≤ b) (hb : b ≤ d.size) (hsz : d.size < 4611686018427387904) :
    Calls Tryz.prog 75 #[.slice (some ⟨blk, off, none⟩) d.size cap, .int .i64 a, .int .i64 b, .func (.func g) #[] cb] w fun e w' => e = .returned (.tuple #[]) ∧ SW enc w0 blk off (Sort.insertionSort (ltOf cf) d a b) w' := Any.insertionSortCmpFunc_s Tryz.laysSlF20_f75 enc cf g cb blk off cap a b d0 d w0 w eg hcmp R hs S hab hb hsz
def Tryz.laysSlF6_f50_ren : Go.Shelf.Ren := ⟨fun | 6 => 50 | 15 => 66 | 14 => 65 | 28 => 85 | 29 => 86 | 20 => 77 | 21 => 78 | 22 => 79 | 23 => 80 | 24 => 81 | 25 => 82 | 26 => 83 | 27 => 84 | 46 => 98 | 47 => 99 | 48 => 100 | 49 => 101 | 50 => 102 | 57 => 110 | n => n, fun | 22 => 37 | 24 => 22 | 25 => 44 | 3 => 3 | 39 => 88 | 0 => 0 | 53 => 105 | 55 => 55 | 4 => 4 | 46 => 98 | 45 => 97 | 50 => 102 | 5 => 5 | 9 => 9 | 66 => 113 | 70 => 117 | 76 => 126 | 77 => 127 | n => n, fun | n => n⟩
theorem Tryz.laysSlF6_f50 : Go.Proofs.SlLaysF.n6 Tryz.prog Tryz.laysSlF6_f50_ren := {
  mixed := by kernel_rfl
  f6 := ⟨Tryz.f50.name, by decide, Tryz.func50.trans (congrArg some (by kernel_rfl))⟩
  f14 := ⟨Tryz.f65.name, by decide, Tryz.func65.trans (congrArg some (by kernel_rfl))⟩
  f15 := Tryz.func66.trans (congrArg some (by kernel_rfl))
  f20 := ⟨Tryz.f77.name, by decide, Tryz.func77.trans (congrArg some (by kernel_rfl))⟩
  f21 := ⟨Tryz.f78.name, by decide, Tryz.func78.trans (congrArg some (by kernel_rfl))⟩
  f22 := ⟨Tryz.f79.name, by decide, Tryz.func79.trans (congrArg some (by kernel_rfl))⟩
  f23 := ⟨Tryz.f80.name, by decide, Tryz.func80.trans (congrArg some (by kernel_rfl))⟩
  f24 := ⟨Tryz.f81.name, by decide, Tryz.func81.trans (congrArg some (by kernel_rfl))⟩
  f25 := ⟨Tryz.f82.name, by decide, Tryz.func82.trans (congrArg some (by kernel_rfl))⟩
  f26 := ⟨Tryz.f83.name, by decide, Tryz.func83.trans (congrArg some (by kernel_rfl))⟩
  f27 := ⟨Tryz.f84.name, by decide, Tryz.func84.trans (congrArg some (by kernel_rfl))⟩
  f28 := Tryz.func85.trans (congrArg some (by kernel_rfl))
  f29 := Tryz.func86.trans (congrArg some (by kernel_rfl))
  f46 := ⟨Tryz.f98.name, by decide, Tryz.func98.trans (congrArg some (by kernel_rfl))⟩
  f47 := Tryz.func99.trans (congrArg some (by kernel_rfl))
  f48 := Tryz.func100.trans (congrArg some (by kernel_rfl))
  f49 := ⟨Tryz.f101.name, by decide, Tryz.func101.trans (congrArg some (by kernel_rfl))⟩
  f50 := ⟨Tryz.f102.name, by decide, Tryz.func102.trans (congrArg some (by kernel_rfl))⟩
  f57 := ⟨Tryz.f110.name, by decide, Tryz.func110.trans (congrArg some (by kernel_rfl))⟩
  t0 := Tryz.underlying0
  a0 := Tryz.isAgg0
  z0 := Tryz.sizeOf0
  v0 := Tryz.zeroValue0
  t3 := Tryz.underlying3
  a3 := Tryz.isAgg3
  z3 := Tryz.sizeOf3
  v3 := Tryz.zeroValue3
  t4 := Tryz.underlying4
  a4 := Tryz.isAgg4
  z4 := Tryz.sizeOf4
  v4 := Tryz.zeroValue4
  t5 := Tryz.underlying5
  a5 := Tryz.isAgg5
  z5 := Tryz.sizeOf5
  v5 := Tryz.zeroValue5
  t9 := Tryz.underlying9
  a9 := Tryz.isAgg9
  z9 := Tryz.sizeOf9
  v9 := Tryz.zeroValue9
  t22 := Tryz.underlying37
  a22 := Tryz.isAgg37
  z22 := Tryz.sizeOf37
  v22 := Tryz.zeroValue37
  a24 := Tryz.isAgg22
  z24 := Tryz.sizeOf22
  t25 := Tryz.underlying44
  a25 := Tryz.isAgg44
  z25 := Tryz.sizeOf44
  v25 := Tryz.zeroValue44
  t39 := Tryz.underlying88
  a39 := Tryz.isAgg88
  z39 := Tryz.sizeOf88
  v39 := Tryz.zeroValue88
  t45 := Tryz.underlying97
  a45 := Tryz.isAgg97
  z45 := Tryz.sizeOf97
  v45 := Tryz.zeroValue97
  t46 := Tryz.underlying98
  a46 := Tryz.isAgg98
  z46 := Tryz.sizeOf98
  v46 := Tryz.zeroValue98
  t50 := Tryz.underlying102
  a50 := Tryz.isAgg102
  z50 := Tryz.sizeOf102
  v50 := Tryz.zeroValue102
  t53 := Tryz.underlying105
  a53 := Tryz.isAgg105
  z53 := Tryz.sizeOf105
  v53 := Tryz.zeroValue105
  t55 := Tryz.underlying55
  a55 := Tryz.isAgg55
  z55 := Tryz.sizeOf55
  v55 := Tryz.zeroValue55
  t66 := Tryz.underlying113
  a66 := Tryz.isAgg113
  z66 := Tryz.sizeOf113
  v66 := Tryz.zeroValue113
  t70 := Tryz.underlying117
  a70 := Tryz.isAgg117
  z70 := Tryz.sizeOf117
  v70 := Tryz.zeroValue117
  t76 := Tryz.underlying126
  a76 := Tryz.isAgg126
  z76 := Tryz.sizeOf126
  v76 := Tryz.zeroValue126
  t77 := Tryz.underlying127
  a77 := Tryz.isAgg127
  z77 := Tryz.sizeOf127
  v77 := Tryz.zeroValue127 }
open Go.RowKit Go.Lib Go.Sort in
/-- **slices.SortFunc, IN THE DOCUMENTATION's OWN TERMS: A PERMUTATION OF WHAT THE ROW HELD, SORTED BY 'cmp(a, b) < 0'.** Which of two equals comes first is left open ("The sort is not guaranteed to be stable"). (LAID AT THE INSTANCE 'slices.SortFunc[[]float64,float64]': no walk: one application.) -/
theorem Tryz.slices_SortFunc {α : Type} [Inhabited α] (enc : α → Value) (h1 : OneCell enc) (cf : α → α → Int) (hO : SWO (ltOf cf)) (g : Nat) (cb : Array Value) (blk off cap : Nat) (d : Array α) (w : World) (eg : ∀ args w, (callFunc g args).run Tryz.prog w = .ok (.enter g args) w) (hcmp : CmpLays1 Tryz.prog g cb enc cf blk off d.size w) (hH : Holds enc w blk off d) (hblk : blk < w.heap.size) (hsz : d.size < 4611686018427387904) :
    Calls Tryz.prog 50 #[.slice (some ⟨blk, off, none⟩) d.size cap, .func (.func g) #[] cb] w fun e w' =>
      e = .returned (.tuple #[]) ∧ ∃ d' n os, PermIn 0 d.size d d' ∧ SortedIn (ltOf cf) 0 d.size d' ∧ w' = sortWorld enc w blk off n d' os := Any.slices_SortFunc Tryz.laysSlF6_f50 enc h1 cf hO g cb blk off cap d w eg hcmp hH hblk hsz
end Go.Proofs
end
section
/-
  The walks of floats: keys, order, canonical values. Conditions: slices as they lie in memory.
-/
namespace Go.Proofs.YtbadfphdniliaaaGreatDoor
open Go.Pn Go.RowKit

theorem ext30 : ∀ args w, (callFunc 30 args).run Tryz.prog w = ((bitsOf args).run Tryz.prog w).andThen fun v w' => .ok (.value v) w' := fun args w => run_callFunc_extern Tryz.func30 (by kernel_rfl) (by kernel_rfl) (by kernel_rfl) (by kernel_rfl) args w
theorem ext28 : ∀ args w, (callFunc 28 args).run Tryz.prog w = ((fromBits args).run Tryz.prog w).andThen fun v w' => .ok (.value v) w' := fun args w => run_callFunc_extern Tryz.func28 (by kernel_rfl) (by kernel_rfl) (by kernel_rfl) (by kernel_rfl) args w
theorem key_spec (x : BitVec 64) (w : World) :
    Ret Tryz.prog 38 #[fl (x)] w (fun v w' => v = .int .u64 ((Fl.key x).toNat : Int) ∧ w' = w) := by
  refine enter (args := [fl (x)]) (n := 13) Tryz.func38 rfl rfl (Nat.le_of_ble_eq_true rfl) ?_
  refine C.seqK fun K1 hK1 => ?_
  refine C.region ?_
  refine O.asg ?_
  refine O.nil ?_
  refine hK1 _ _ ?_
  refine C.seqK fun K2 hK2 => ?_
  refine C.region ?_
  refine O.mv ?_
  refine O.ext ext30 (args1 rfl) (run_bitsOf _) ?_
  refine O.asg ?_
  refine O.nil ?_
  refine hK2 _ _ ?_
  refine C.seqK fun K3 hK3 => ?_
  refine C.seqK fun K4 hK4 => ?_
  refine C.region ?_
  refine O.mv ?_
  refine O.andU (m := 64) (b := 9223372036854775808#64) rfl rfl rfl rfl ?_
  refine O.neqU (m := 64) (b := 0#64) rfl rfl ?_
  refine O.nil ?_
  refine hK4 _ _ ?_
  refine C.condD rfl (fun c8 => ?_) (fun c8 => ?_)
  ·
    refine C.seqK fun K5 hK5 => ?_
    refine C.region ?_
    refine O.mv ?_
    refine O.notU rfl rfl rfl ?_
    refine O.asg ?_
    refine O.nil ?_
    refine hK5 _ _ ?_
    refine C.ret ?_
    refine Outs.one rfl rfl ?_
    first
    | (rw [← Fl.key_hi c8]; exact ⟨rfl, rfl⟩)
    | (rw [← Fl.key_lo c8]; exact ⟨rfl, rfl⟩)
  ·
    refine C.skip ?_
    refine hK3 _ _ ?_
    refine C.seqK fun K6 hK6 => ?_
    refine C.region ?_
    refine O.mv ?_
    refine O.orU (m := 64) (b := 9223372036854775808#64) rfl rfl rfl rfl ?_
    refine O.asg ?_
    refine O.nil ?_
    refine hK6 _ _ ?_
    refine C.ret ?_
    refine Outs.one rfl rfl ?_
    first
    | (rw [← Fl.key_hi c8]; exact ⟨rfl, rfl⟩)
    | (rw [← Fl.key_lo c8]; exact ⟨rfl, rfl⟩)

theorem isNaN_spec (x : BitVec 64) (w : World) :
    Ret Tryz.prog 51 #[.int .u64 ((x).toNat : Int)] w (fun v w' => v = .bool false ∧ w' = w) := by
  refine enter (args := [.int .u64 ((x).toNat : Int)]) (n := 6) Tryz.func51 rfl rfl (Nat.le_of_ble_eq_true rfl) ?_
  refine C.seqK fun K1 hK1 => ?_
  refine C.region ?_
  refine O.asg ?_
  refine O.nil ?_
  refine hK1 _ _ ?_
  refine C.seqK fun K2 hK2 => ?_
  refine C.region ?_
  refine O.mv ?_
  refine O.mv ?_
  refine O.neqU (m := 64) rfl rfl ?_
  refine O.cast (v' := .bool false) (congrArg Value.bool (by exact decide_eq_false (fun h => h rfl))) ?_
  refine O.asg ?_
  refine O.nil ?_
  refine hK2 _ _ ?_
  refine C.ret ?_
  refine Outs.one rfl rfl ?_
  exact ⟨rfl, rfl⟩

theorem ucmp_spec (a b : BitVec 64) (w : World) :
    Ret Tryz.prog 37 #[.int .u64 ((a).toNat : Int), .int .u64 ((b).toNat : Int)] w (fun v w' => v = .int .i64 (Fl.ucmp a b) ∧ w' = w) := by
  refine enter (args := [.int .u64 ((a).toNat : Int), .int .u64 ((b).toNat : Int)]) (n := 20) Tryz.func37 rfl rfl (Nat.le_of_ble_eq_true rfl) ?_
  refine C.seqK fun K1 hK1 => ?_
  refine C.region ?_
  refine O.asg ?_
  refine O.nil ?_
  refine hK1 _ _ ?_
  refine C.seqK fun K2 hK2 => ?_
  refine C.region ?_
  refine O.mv ?_
  refine O.call Tryz.call51 (args1 rfl) (isNaN_spec _ _) ?_
  rintro v_8 w1 ⟨rfl, hw_⟩
  replace hw_ := hw_.symm
  subst hw_
  refine O.asg ?_
  refine O.nil ?_
  refine hK2 _ _ ?_
  refine C.seqK fun K3 hK3 => ?_
  refine C.region ?_
  refine O.mv ?_
  refine O.call Tryz.call51 (args1 rfl) (isNaN_spec _ _) ?_
  rintro v_10 w1 ⟨rfl, hw_⟩
  replace hw_ := hw_.symm
  subst hw_
  refine O.asg ?_
  refine O.nil ?_
  refine hK3 _ _ ?_
  refine C.seqK fun K4 hK4 => ?_
  refine C.seqK fun K5 hK5 => ?_
  refine C.region ?_
  refine O.mv ?_
  refine O.nil ?_
  refine hK5 _ _ ?_
  refine C.condF rfl ?_
  refine C.skip ?_
  refine hK4 _ _ ?_
  refine C.seqK fun K6 hK6 => ?_
  refine C.seqK fun K7 hK7 => ?_
  refine C.region ?_
  refine O.mv ?_
  refine O.nil ?_
  refine hK7 _ _ ?_
  refine C.condF rfl ?_
  refine C.skip ?_
  refine hK6 _ _ ?_
  refine C.seqK fun K8 hK8 => ?_
  refine C.seqK fun K9 hK9 => ?_
  refine C.region ?_
  refine O.mv ?_
  refine O.mv ?_
  refine O.lssU (m := 64) rfl rfl ?_
  refine O.nil ?_
  refine hK9 _ _ ?_
  refine C.condD rfl (fun c16 => ?_) (fun c16 => ?_)
  ·
    refine C.seqK fun K10 hK10 => ?_
    refine C.region ?_
    refine O.asg ?_
    refine O.nil ?_
    refine hK10 _ _ ?_
    refine C.ret ?_
    refine Outs.one rfl rfl ?_
    unfold Fl.ucmp
    first
    | (rw [if_pos c16]; exact ⟨rfl, rfl⟩)
    | (rw [if_neg c16, if_pos c19]; exact ⟨rfl, rfl⟩)
    | (rw [if_neg c16, if_neg c19]; exact ⟨rfl, rfl⟩)
  ·
    refine C.skip ?_
    refine hK8 _ _ ?_
    refine C.seqK fun K11 hK11 => ?_
    refine C.seqK fun K12 hK12 => ?_
    refine C.region ?_
    refine O.mv ?_
    refine O.mv ?_
    refine O.gtrU (m := 64) rfl rfl ?_
    refine O.nil ?_
    refine hK12 _ _ ?_
    refine C.condD rfl (fun c19 => ?_) (fun c19 => ?_)
    ·
      refine C.seqK fun K13 hK13 => ?_
      refine C.region ?_
      refine O.asg ?_
      refine O.nil ?_
      refine hK13 _ _ ?_
      refine C.ret ?_
      refine Outs.one rfl rfl ?_
      unfold Fl.ucmp
      first
      | (rw [if_pos c16]; exact ⟨rfl, rfl⟩)
      | (rw [if_neg c16, if_pos c19]; exact ⟨rfl, rfl⟩)
      | (rw [if_neg c16, if_neg c19]; exact ⟨rfl, rfl⟩)
    ·
      refine C.skip ?_
      refine hK11 _ _ ?_
      refine C.seqK fun K14 hK14 => ?_
      refine C.region ?_
      refine O.asg ?_
      refine O.nil ?_
      refine hK14 _ _ ?_
      refine C.ret ?_
      refine Outs.one rfl rfl ?_
      unfold Fl.ucmp
      first
      | (rw [if_pos c16]; exact ⟨rfl, rfl⟩)
      | (rw [if_neg c16, if_pos c19]; exact ⟨rfl, rfl⟩)
      | (rw [if_neg c16, if_neg c19]; exact ⟨rfl, rfl⟩)

theorem cmp_spec (a b : BitVec 64) (w : World) :
    Ret Tryz.prog 23 #[fl (a), fl (b)] w (fun v w' => v = .int .i64 (Fl.cmp a b) ∧ w' = w) := by
  refine enter (args := [fl (a), fl (b)]) (n := 10) Tryz.func23 rfl rfl (Nat.le_of_ble_eq_true rfl) ?_
  refine C.seqK fun K1 hK1 => ?_
  refine C.region ?_
  refine O.asg ?_
  refine O.nil ?_
  refine hK1 _ _ ?_
  refine C.seqK fun K2 hK2 => ?_
  refine C.region ?_
  refine O.mv ?_
  refine O.call Tryz.call38 (args1 rfl) (key_spec _ _) ?_
  rintro v_6 w1 ⟨rfl, hw_⟩
  replace hw_ := hw_.symm
  subst hw_
  refine O.mv ?_
  refine O.call Tryz.call38 (args1 rfl) (key_spec _ _) ?_
  rintro v_8 w1 ⟨rfl, hw_⟩
  replace hw_ := hw_.symm
  subst hw_
  refine O.call Tryz.call37 (args2 rfl rfl) (ucmp_spec _ _ _) ?_
  rintro v_9 w1 ⟨rfl, hw_⟩
  replace hw_ := hw_.symm
  subst hw_
  refine O.asg ?_
  refine O.nil ?_
  refine hK2 _ _ ?_
  refine C.ret ?_
  refine Outs.one rfl rfl ?_
  exact ⟨rfl, rfl⟩

end Go.Proofs.YtbadfphdniliaaaGreatDoor
end
section
/-
  The walks of floats: lists. Conditions: slices as they lie in memory.
-/
namespace Go.Proofs.YtbadfphdniliaaaGreatDoor
open Go.Pn Go.RowKit

theorem inf22 : ∃ ie, Tryz.prog.info? 22 = some ie ∧ ie.size = 1 ∧ ie.bytes = 8 ∧ ie.zero = some (.float .f64 0) := by
  have h : (Tryz.prog.info? 22).isSome = true := by kernel_rfl
  exact ⟨(Tryz.prog.info? 22).get h, (Option.some_get h).symm, by kernel_rfl, by kernel_rfl, by kernel_rfl⟩
theorem canon_spec (x : BitVec 64) (w : World) :
    Ret Tryz.prog 35 #[fl (x)] w (fun v w' => v = fl (Fl.canon x) ∧ w' = w) := by
  refine enter (args := [fl (x)]) (n := 12) Tryz.func35 rfl rfl (Nat.le_of_ble_eq_true rfl) ?_
  refine C.seqK fun K1 hK1 => ?_
  refine C.region ?_
  refine O.asg ?_
  refine O.nil ?_
  refine hK1 _ _ ?_
  refine C.seqK fun K2 hK2 => ?_
  refine C.block fun K3 hK3 => ?_
  refine C.seqK fun K4 hK4 => ?_
  refine C.region ?_
  refine O.mv ?_
  refine O.mv ?_
  refine O.neqF rfl rfl ?_
  refine O.asg ?_
  refine O.nil ?_
  refine hK4 _ _ ?_
  refine C.condD rfl (fun c3 => ?_) (fun c3 => ?_)
  ·
    refine C.seqK fun K5 hK5 => ?_
    refine C.region ?_
    refine O.ext ext28 (args1 rfl) (run_fromBits (9221120237041090560#64)) ?_
    refine O.asg ?_
    refine O.nil ?_
    refine hK5 _ _ ?_
    refine C.ret ?_
    refine Outs.one rfl rfl ?_
    first
    | (rw [Fl.canon_nan c3]; exact ⟨rfl, rfl⟩)
    | (rw [Fl.canon_zero c3 c8]; exact ⟨rfl, rfl⟩)
    | (rw [Fl.canon_else c3 c8]; exact ⟨rfl, rfl⟩)
  ·
    refine C.seqK fun K6 hK6 => ?_
    refine C.region ?_
    refine O.mv ?_
    refine O.eqlF (b := 0#64) rfl rfl ?_
    refine O.asg ?_
    refine O.nil ?_
    refine hK6 _ _ ?_
    refine C.condD rfl (fun c8 => ?_) (fun c8 => ?_)
    ·
      refine C.seqK fun K7 hK7 => ?_
      refine C.region ?_
      refine O.asg ?_
      refine O.nil ?_
      refine hK7 _ _ ?_
      refine C.ret ?_
      refine Outs.one rfl rfl ?_
      first
      | (rw [Fl.canon_nan c3]; exact ⟨rfl, rfl⟩)
      | (rw [Fl.canon_zero c3 c8]; exact ⟨rfl, rfl⟩)
      | (rw [Fl.canon_else c3 c8]; exact ⟨rfl, rfl⟩)
    ·
      refine C.skip ?_
      refine hK3 _ _ ?_
      refine hK2 _ _ ?_
      refine C.seqK fun K8 hK8 => ?_
      refine C.region ?_
      refine O.mv ?_
      refine O.asg ?_
      refine O.nil ?_
      refine hK8 _ _ ?_
      refine C.ret ?_
      refine Outs.one rfl rfl ?_
      first
      | (rw [Fl.canon_nan c3]; exact ⟨rfl, rfl⟩)
      | (rw [Fl.canon_zero c3 c8]; exact ⟨rfl, rfl⟩)
      | (rw [Fl.canon_else c3 c8]; exact ⟨rfl, rfl⟩)

end Go.Proofs.YtbadfphdniliaaaGreatDoor
end
section
/-
  The walks of discounts: names, factors, prices, rules. Conditions: what the library's variable holds; names that are strings.
-/
namespace Go.Proofs.YtbadfphdniliaaaGreatDoor
open Go.Pn Go.RowKit Go.Proofs
attribute [local irreducible] O C D


/-- The library's variable that says up to which length a search is short. -/
structure Mx (w : World) : Prop where
  h : ∃ m : Int, CellIs w 1 (.int .i64 m)
theorem Mx.keep {w w' : World} (h : Mx w) (e : Le w w') : Mx w' := by obtain ⟨m, hm⟩ := h.h; exact ⟨m, hm.keep e⟩
theorem trim_spec (l : List UInt8) (w : World) (hl : l.length ≤ 281474976710656) : Ret Tryz.prog 45 #[str l, str [32]] w (fun v w' => v = str (Lib.trimB l 32) ∧ Le w w') := by
  refine Ret.of (Tryz.strings_Trim_one ⟨l.toArray⟩ 32 (by decide) w (by simp [ByteArray.size]; omega)) ?_
  rintro e w' ⟨rfl, rfl | rfl⟩
  · exact ⟨_, rfl, rfl, Le.refl _⟩
  · exact ⟨_, rfl, rfl, Le.drew w⟩
theorem has2_spec (l : List UInt8) (w : World) (hl : l.length ≤ 10000000) (mx : Mx w) : Ret Tryz.prog 46 #[str l, str [32, 32]] w (fun v w' => v = .bool (Lib.contains l [32, 32]) ∧ Le w w') := by
  obtain ⟨m, hm⟩ := mx.h
  refine Ret.of (Tryz.strings_Contains ⟨l.toArray⟩ ⟨[32, 32].toArray⟩ m w (by simp [ByteArray.size]; omega) hm) ?_
  rintro e w' ⟨rfl, rfl⟩
  exact ⟨_, rfl, rfl, Le.refl _⟩

theorem ext67 : ∀ args w, (callFunc 67 args).run Tryz.prog w = ((floorX args).run Tryz.prog w).andThen fun v w' => .ok (.value v) w' := fun args w => run_callFunc_extern Tryz.func67 (by kernel_rfl) (by kernel_rfl) (by kernel_rfl) (by kernel_rfl) args w
theorem okName_spec (s : List UInt8) (w : World) (hl : s.length ≤ maxLen) (mx : Mx w) :
    Ret Tryz.prog 31 #[str (s)] w (fun v w' => v = .bool (Cn.okName s) ∧ Le w w') := by
  have hl2 := hl
  unfold maxLen at hl2
  refine enter (args := [str (s)]) (n := 38) Tryz.func31 rfl rfl (Nat.le_of_ble_eq_true rfl) ?_
  refine C.seqK fun K1 hK1 => ?_
  refine C.region ?_
  refine O.asg ?_
  refine O.nil ?_
  refine hK1 _ _ ?_
  refine C.seqK fun K2 hK2 => ?_
  refine C.seqK fun K3 hK3 => ?_
  refine C.region ?_
  refine O.mv ?_
  refine O.strB Tryz.underlying9 Tryz.underlying69 Tryz.underlying5 rfl (by unfold maxLen; omega) (fun b6 cap6 w1 hb6 hc6 h6 hs6 e1 => ?_)
  have z1 := e1.size
  refine O.len Tryz.underlying69 rfl hs6 ?_
  refine O.mv ?_
  refine O.nil ?_
  refine hK3 _ _ ?_
  refine C.block fun K4 hK4 => ?_
  refine C.loop0 (σ := Nat) (fun f0 w0 k f w => f 8 = .int .i64 (k) ∧ f 0 = f0 0 ∧ f 6 = f0 6 ∧ f 7 = f0 7 ∧ Le w0 w ∧ k ≤ s.length ∧ ∀ i, ∀ h : i < s.length, i < k → Cn.okC s[i] = true) (fun k => s.length - k) 0 ?_ ?_
  ·
    refine ⟨rfl, rfl, rfl, rfl, Le.refl _, ?_⟩
    exact ⟨Nat.zero_le _, fun i h k => absurd k (Nat.not_lt_zero _)⟩
  ·
    rintro k f_1 w2 ⟨s8_1, s0_1, s6_1, s7_1, e_1, ⟨hk, hI⟩⟩
    have z_1 := e_1.size
    refine C.seqK fun K5 hK5 => ?_
    refine C.region ?_
    refine O.lssI s8_1 s7_1 ?_
    refine O.nil ?_
    refine hK5 _ _ ?_
    refine C.seqK fun K6 hK6 => ?_
    refine C.condD rfl (fun c9 => ?_) (fun c9 => ?_)
    ·
      have hk2 : k < s.length := by omega
      refine C.skip ?_
      refine hK6 _ _ ?_
      refine C.seqK fun K7 hK7 => ?_
      refine C.block fun K8 hK8 => ?_
      refine C.seqK fun K9 hK9 => ?_
      refine C.region ?_
      refine O.idx Tryz.underlying69 Tryz.sizeOf5 rfl s6_1 (hs6.keep e_1) s8_1 (by omega) (fun a10 h10 => ?_)
      refine O.loadB Tryz.isAgg5 rfl h10 ?_
      refine O.asg ?_
      refine O.nil ?_
      refine hK9 _ _ ?_
      refine C.seqK fun K10 hK10 => ?_
      refine C.region ?_
      refine O.mv ?_
      refine O.lssU (m := 8) (b := 32#8) rfl rfl ?_
      refine O.mv ?_
      refine O.splitD (x := .tmp 14) rfl (fun c14 => ?_) (fun c14 => ?_)
      ·
        simp only [Int.toNat_natCast] at c14
        refine O.no rfl (noB (isT rfl c14) rfl) ?_
        refine O.no rfl (noB (isT rfl c14) rfl) ?_
        refine O.pickT (isT rfl c14) ?_
        refine O.nil ?_
        refine hK10 _ _ ?_
        refine C.condT rfl ?_
        refine C.seqK fun K11 hK11 => ?_
        refine C.region ?_
        refine O.asg ?_
        refine O.nil ?_
        refine hK11 _ _ ?_
        refine C.ret ?_
        refine Outs.one rfl rfl ?_
        first
        | exact ⟨congrArg Value.bool (Cn.okName_all hk2 (Cn.okC_lo c14)).symm, (Ext.trans e1 e_1)⟩
        | exact ⟨congrArg Value.bool (Cn.okName_all hk2 (Cn.okC_hi c17)).symm, (Ext.trans e1 e_1)⟩
        | (refine ⟨congrArg Value.bool ?_, (Ext.trans e1 e_1)⟩
           unfold Cn.okName
           rw [hall]
           first
           | (rw [decide_eq_false (p := 1 ≤ s.length ∧ s.length ≤ 64) (by omega)]; rfl)
           | (rw [decide_eq_true (p := 1 ≤ s.length ∧ s.length ≤ 64) (by omega), decide_eq_false c33]; rfl)
           | (rw [decide_eq_true (p := 1 ≤ s.length ∧ s.length ≤ 64) (by omega), decide_eq_true c33]; rfl))
      ·
        simp only [Int.toNat_natCast] at c14
        refine O.yes rfl (isF rfl c14) ?_
        refine O.mv ?_
        refine O.yes rfl (isF rfl c14) ?_
        refine O.gtrU (m := 8) (b := 126#8) rfl rfl ?_
        refine O.pickF (isF rfl c14) ?_
        refine O.nil ?_
        refine hK10 _ _ ?_
        refine C.condD rfl (fun c17 => ?_) (fun c17 => ?_)
        ·
          simp only [Int.toNat_natCast] at c17
          refine C.seqK fun K12 hK12 => ?_
          refine C.region ?_
          refine O.asg ?_
          refine O.nil ?_
          refine hK12 _ _ ?_
          refine C.ret ?_
          refine Outs.one rfl rfl ?_
          first
          | exact ⟨congrArg Value.bool (Cn.okName_all hk2 (Cn.okC_lo c14)).symm, (Ext.trans e1 e_1)⟩
          | exact ⟨congrArg Value.bool (Cn.okName_all hk2 (Cn.okC_hi c17)).symm, (Ext.trans e1 e_1)⟩
          | (refine ⟨congrArg Value.bool ?_, (Ext.trans e1 e_1)⟩
             unfold Cn.okName
             rw [hall]
             first
             | (rw [decide_eq_false (p := 1 ≤ s.length ∧ s.length ≤ 64) (by omega)]; rfl)
             | (rw [decide_eq_true (p := 1 ≤ s.length ∧ s.length ≤ 64) (by omega), decide_eq_false c33]; rfl)
             | (rw [decide_eq_true (p := 1 ≤ s.length ∧ s.length ≤ 64) (by omega), decide_eq_true c33]; rfl))
        ·
          simp only [Int.toNat_natCast] at c17
          refine C.skip ?_
          refine hK8 _ _ ?_
          refine hK7 _ _ ?_
          refine C.region ?_
          refine O.addI s8_1 rfl (by unfold InI; omega) ?_
          refine O.mv ?_
          refine O.nil ?_
          refine ⟨k + 1, ⟨rfl, s0_1, s6_1, s7_1, e_1, ?_⟩, by first | omega | (simp only []; omega)⟩
          refine ⟨by omega, fun i hi hik => ?_⟩
          rcases Nat.lt_or_eq_of_le (Nat.le_of_lt_succ hik) with h | rfl
          · exact hI i hi h
          · exact Cn.okC_ok c14 c17
    ·
      have hall : s.all Cn.okC = true := Cn.all_yes fun i hi => hI i hi (by omega)
      refine C.exit ?_
      refine hK4 _ _ ?_
      refine hK2 _ _ ?_
      refine C.seqK fun K13 hK13 => ?_
      refine C.region ?_
      refine O.mv ?_
      refine O.lenS Tryz.underlying9 s0_1 ?_
      refine O.geqI rfl rfl ?_
      refine O.mv ?_
      refine O.cut 4 (fun f f' => f' 26 = .bool (decide ((s.length : Int) ≥ 1 ∧ (s.length : Int) ≤ 64)) ∧ f' 0 = f 0) ?_ ?_
      ·
        refine O.splitD (x := .tmp 22) rfl (fun c22 => ?_) (fun c22 => ?_)
        ·
          refine O.yes rfl (isT rfl c22) ?_
          refine O.mv ?_
          refine O.yes rfl (isT rfl c22) ?_
          refine O.lenS Tryz.underlying9 s0_1 ?_
          refine O.yes rfl (isT rfl c22) ?_
          refine O.leqI rfl rfl ?_
          refine O.pickT (isT rfl c22) ?_
          refine O.nil ?_
          refine ⟨⟨?_, rfl⟩, rfl⟩
          first | exact rfl | exact Eq.trans rfl (congrArg Value.bool (dAnd (by assumption))) | exact Eq.trans rfl (congrArg Value.bool (dAndF (by assumption))) | exact Eq.trans rfl (congrArg Value.bool (dOr (by assumption))) | exact Eq.trans rfl (congrArg Value.bool (dOrT (by assumption)))
        ·
          refine O.no rfl (noB (isF rfl c22) rfl) ?_
          refine O.no rfl (noB (isF rfl c22) rfl) ?_
          refine O.no rfl (noB (isF rfl c22) rfl) ?_
          refine O.pickF (isF rfl c22) ?_
          refine O.nil ?_
          refine ⟨⟨?_, rfl⟩, rfl⟩
          first | exact rfl | exact Eq.trans rfl (congrArg Value.bool (dAnd (by assumption))) | exact Eq.trans rfl (congrArg Value.bool (dAndF (by assumption))) | exact Eq.trans rfl (congrArg Value.bool (dOr (by assumption))) | exact Eq.trans rfl (congrArg Value.bool (dOrT (by assumption)))
      ·
        rintro f_2 ⟨s26_2, s0_2⟩
        refine O.mv ?_
        refine O.splitD (x := .tmp 27) s26_2 (fun c27 => ?_) (fun c27 => ?_)
        ·
          refine O.yes rfl (isT s26_2 c27) ?_
          refine O.mv ?_
          refine O.yes rfl (isT s26_2 c27) ?_
          refine O.call Tryz.call45 (args2 (Eq.trans s0_2 s0_1) rfl) (trim_spec s _ (by omega)) ?_
          rintro v_29 w3 ⟨rfl, e3⟩
          have z3 := e3.size
          refine O.yes rfl (isT s26_2 c27) ?_
          refine O.mv ?_
          refine O.yes rfl (isT s26_2 c27) ?_
          refine O.eqlS rfl (Eq.trans s0_2 s0_1) ?_
          refine O.pickT (isT s26_2 c27) ?_
          refine O.mv ?_
          refine O.splitD (x := .tmp 33) rfl (fun c33 => ?_) (fun c33 => ?_)
          ·
            refine O.yes rfl (isT rfl c33) ?_
            refine O.mv ?_
            refine O.yes rfl (isT rfl c33) ?_
            refine O.call Tryz.call46 (args2 (Eq.trans s0_2 s0_1) rfl) (has2_spec s _ (by omega) (((mx.keep e1).keep e_1).keep e3)) ?_
            rintro v_35 w4 ⟨rfl, e4⟩
            have z4 := e4.size
            refine O.yes rfl (isT rfl c33) ?_
            refine O.not rfl ?_
            refine O.pickT (isT rfl c33) ?_
            refine O.asg ?_
            refine O.nil ?_
            refine hK13 _ _ ?_
            refine C.ret ?_
            refine Outs.one rfl rfl ?_
            first
            | exact ⟨congrArg Value.bool (Cn.okName_all hk2 (Cn.okC_lo c14)).symm, (Ext.trans (Ext.trans (Ext.trans e1 e_1) e3) e4)⟩
            | exact ⟨congrArg Value.bool (Cn.okName_all hk2 (Cn.okC_hi c17)).symm, (Ext.trans (Ext.trans (Ext.trans e1 e_1) e3) e4)⟩
            | (refine ⟨congrArg Value.bool ?_, (Ext.trans (Ext.trans (Ext.trans e1 e_1) e3) e4)⟩
               unfold Cn.okName
               rw [hall]
               first
               | (rw [decide_eq_false (p := 1 ≤ s.length ∧ s.length ≤ 64) (by omega)]; rfl)
               | (rw [decide_eq_true (p := 1 ≤ s.length ∧ s.length ≤ 64) (by omega), decide_eq_false c33]; rfl)
               | (rw [decide_eq_true (p := 1 ≤ s.length ∧ s.length ≤ 64) (by omega), decide_eq_true c33]; rfl))
          ·
            refine O.no rfl (noB (isF rfl c33) rfl) ?_
            refine O.no rfl (noB (isF rfl c33) rfl) ?_
            refine O.no rfl (noB (isF rfl c33) rfl) ?_
            refine O.pickF (isF rfl c33) ?_
            refine O.asg ?_
            refine O.nil ?_
            refine hK13 _ _ ?_
            refine C.ret ?_
            refine Outs.one rfl rfl ?_
            first
            | exact ⟨congrArg Value.bool (Cn.okName_all hk2 (Cn.okC_lo c14)).symm, (Ext.trans (Ext.trans e1 e_1) e3)⟩
            | exact ⟨congrArg Value.bool (Cn.okName_all hk2 (Cn.okC_hi c17)).symm, (Ext.trans (Ext.trans e1 e_1) e3)⟩
            | (refine ⟨congrArg Value.bool ?_, (Ext.trans (Ext.trans e1 e_1) e3)⟩
               unfold Cn.okName
               rw [hall]
               first
               | (rw [decide_eq_false (p := 1 ≤ s.length ∧ s.length ≤ 64) (by omega)]; rfl)
               | (rw [decide_eq_true (p := 1 ≤ s.length ∧ s.length ≤ 64) (by omega), decide_eq_false c33]; rfl)
               | (rw [decide_eq_true (p := 1 ≤ s.length ∧ s.length ≤ 64) (by omega), decide_eq_true c33]; rfl))
        ·
          refine O.no rfl (noB (isF s26_2 c27) rfl) ?_
          refine O.no rfl (noB (isF s26_2 c27) rfl) ?_
          refine O.no rfl (noB (isF s26_2 c27) rfl) ?_
          refine O.no rfl (noB (isF s26_2 c27) rfl) ?_
          refine O.pickF (isF s26_2 c27) ?_
          refine O.mv ?_
          refine O.no rfl (noB rfl rfl) ?_
          refine O.no rfl (noB rfl rfl) ?_
          refine O.no rfl (noB rfl rfl) ?_
          refine O.pickF rfl ?_
          refine O.asg ?_
          refine O.nil ?_
          refine hK13 _ _ ?_
          refine C.ret ?_
          refine Outs.one rfl rfl ?_
          first
          | exact ⟨congrArg Value.bool (Cn.okName_all hk2 (Cn.okC_lo c14)).symm, (Ext.trans e1 e_1)⟩
          | exact ⟨congrArg Value.bool (Cn.okName_all hk2 (Cn.okC_hi c17)).symm, (Ext.trans e1 e_1)⟩
          | (refine ⟨congrArg Value.bool ?_, (Ext.trans e1 e_1)⟩
             unfold Cn.okName
             rw [hall]
             first
             | (rw [decide_eq_false (p := 1 ≤ s.length ∧ s.length ≤ 64) (by omega)]; rfl)
             | (rw [decide_eq_true (p := 1 ≤ s.length ∧ s.length ≤ 64) (by omega), decide_eq_false c33]; rfl)
             | (rw [decide_eq_true (p := 1 ≤ s.length ∧ s.length ≤ 64) (by omega), decide_eq_true c33]; rfl))

theorem nan_spec (w : World) :
    Ret Tryz.prog 21 #[] w (fun v w' => v = fl 9221120237041090560#64 ∧ w' = w) := by
  refine enter (args := []) (n := 2) Tryz.func21 rfl rfl (Nat.le_of_ble_eq_true rfl) ?_
  refine C.seqK fun K1 hK1 => ?_
  refine C.region ?_
  refine O.asg ?_
  refine O.nil ?_
  refine hK1 _ _ ?_
  refine C.seqK fun K2 hK2 => ?_
  refine C.region ?_
  refine O.ext ext28 (args1 rfl) (run_fromBits (9221120237041090560#64)) ?_
  refine O.asg ?_
  refine O.nil ?_
  refine hK2 _ _ ?_
  refine C.ret ?_
  refine Outs.one rfl rfl ?_
  exact ⟨rfl, rfl⟩

theorem part_spec (f : BitVec 64) (w : World) :
    Ret Tryz.prog 32 #[fl (f)] w (fun v w' => v = .bool (decide (Rnd.Unit (Fl.canon f))) ∧ Le w w') := by
  refine enter (args := [fl (f)]) (n := 12) Tryz.func32 rfl rfl (Nat.le_of_ble_eq_true rfl) ?_
  refine C.seqK fun K1 hK1 => ?_
  refine C.region ?_
  refine O.asg ?_
  refine O.nil ?_
  refine hK1 _ _ ?_
  refine C.seqK fun K2 hK2 => ?_
  refine C.region ?_
  refine O.mv ?_
  refine O.call Tryz.call35 (args1 rfl) (canon_spec _ _) ?_
  rintro v_5 w1 ⟨rfl, hw_⟩
  replace hw_ := hw_.symm
  subst hw_
  refine O.asg ?_
  refine O.nil ?_
  refine hK2 _ _ ?_
  refine C.seqK fun K3 hK3 => ?_
  refine C.region ?_
  refine O.mv ?_
  refine O.geqF (b := 0#64) rfl rfl ?_
  refine O.mv ?_
  refine O.splitD (x := .tmp 8) rfl (fun c8 => ?_) (fun c8 => ?_)
  ·
    refine O.yes rfl (isT rfl c8) ?_
    refine O.mv ?_
    refine O.yes rfl (isT rfl c8) ?_
    refine O.leqF (b := 4607182418800017408#64) rfl rfl ?_
    refine O.pickT (isT rfl c8) ?_
    refine O.asg ?_
    refine O.nil ?_
    refine hK3 _ _ ?_
    refine C.ret ?_
    refine Outs.one rfl rfl ?_
    refine ⟨congrArg Value.bool ?_, (Le.refl _)⟩
    first
    | exact (decide_eq_false (fun h => c8 ((Rnd.part_canon f).2 h).1)).symm
    | (by_cases hh : Rnd.Unit (Fl.canon f)
       · rw [decide_eq_true hh]; exact decide_eq_true ((Rnd.part_canon f).2 hh).2
       · rw [decide_eq_false hh]; exact decide_eq_false (fun h2 => hh ((Rnd.part_canon f).1 ⟨c8, h2⟩)))
  ·
    refine O.no rfl (noB (isF rfl c8) rfl) ?_
    refine O.no rfl (noB (isF rfl c8) rfl) ?_
    refine O.pickF (isF rfl c8) ?_
    refine O.asg ?_
    refine O.nil ?_
    refine hK3 _ _ ?_
    refine C.ret ?_
    refine Outs.one rfl rfl ?_
    refine ⟨congrArg Value.bool ?_, (Le.refl _)⟩
    first
    | exact (decide_eq_false (fun h => c8 ((Rnd.part_canon f).2 h).1)).symm
    | (by_cases hh : Rnd.Unit (Fl.canon f)
       · rw [decide_eq_true hh]; exact decide_eq_true ((Rnd.part_canon f).2 hh).2
       · rw [decide_eq_false hh]; exact decide_eq_false (fun h2 => hh ((Rnd.part_canon f).1 ⟨c8, h2⟩)))

theorem lpart_spec (f : BitVec 64) (w : World) :
    Ret Tryz.prog 11 #[fl (f)] w (fun v w' => v = .bool (decide (Rnd.Unit (Fl.canon f))) ∧ Le w w') := by
  refine enter (args := [fl (f)]) (n := 9) Tryz.func11 rfl rfl (Nat.le_of_ble_eq_true rfl) ?_
  refine C.seqK fun K1 hK1 => ?_
  refine C.region ?_
  refine O.asg ?_
  refine O.nil ?_
  refine hK1 _ _ ?_
  refine C.seqK fun K2 hK2 => ?_
  refine C.region ?_
  refine O.mv ?_
  refine O.geqF (b := 0#64) rfl rfl ?_
  refine O.mv ?_
  refine O.splitD (x := .tmp 5) rfl (fun c5 => ?_) (fun c5 => ?_)
  ·
    refine O.yes rfl (isT rfl c5) ?_
    refine O.mv ?_
    refine O.yes rfl (isT rfl c5) ?_
    refine O.leqF (b := 4607182418800017408#64) rfl rfl ?_
    refine O.pickT (isT rfl c5) ?_
    refine O.asg ?_
    refine O.nil ?_
    refine hK2 _ _ ?_
    refine C.ret ?_
    refine Outs.one rfl rfl ?_
    refine ⟨congrArg Value.bool ?_, (Le.refl _)⟩
    first
    | exact (decide_eq_false (fun h => c5 ((Rnd.part_iff f).2 h).1)).symm
    | (by_cases hh : Rnd.Unit (Fl.canon f)
       · rw [decide_eq_true hh]; exact decide_eq_true ((Rnd.part_iff f).2 hh).2
       · rw [decide_eq_false hh]; exact decide_eq_false (fun h2 => hh ((Rnd.part_iff f).1 ⟨c5, h2⟩)))
  ·
    refine O.no rfl (noB (isF rfl c5) rfl) ?_
    refine O.no rfl (noB (isF rfl c5) rfl) ?_
    refine O.pickF (isF rfl c5) ?_
    refine O.asg ?_
    refine O.nil ?_
    refine hK2 _ _ ?_
    refine C.ret ?_
    refine Outs.one rfl rfl ?_
    refine ⟨congrArg Value.bool ?_, (Le.refl _)⟩
    first
    | exact (decide_eq_false (fun h => c5 ((Rnd.part_iff f).2 h).1)).symm
    | (by_cases hh : Rnd.Unit (Fl.canon f)
       · rw [decide_eq_true hh]; exact decide_eq_true ((Rnd.part_iff f).2 hh).2
       · rw [decide_eq_false hh]; exact decide_eq_false (fun h2 => hh ((Rnd.part_iff f).1 ⟨c5, h2⟩)))

theorem priced_spec (c q : Int) (w : World) :
    Ret Tryz.prog 39 #[.int .i64 (c), .int .i64 (q)] w (fun v w' => v = .bool (Ds.okP c q) ∧ Le w w') := by
  refine enter (args := [.int .i64 (c), .int .i64 (q)]) (n := 19) Tryz.func39 rfl rfl (Nat.le_of_ble_eq_true rfl) ?_
  refine C.seqK fun K1 hK1 => ?_
  refine C.region ?_
  refine O.asg ?_
  refine O.nil ?_
  refine hK1 _ _ ?_
  refine C.seqK fun K2 hK2 => ?_
  refine C.region ?_
  refine O.mv ?_
  refine O.geqI rfl rfl ?_
  refine O.mv ?_
  refine O.splitD (x := .tmp 7) rfl (fun c7 => ?_) (fun c7 => ?_)
  ·
    refine O.yes rfl (isT rfl c7) ?_
    refine O.mv ?_
    refine O.yes rfl (isT rfl c7) ?_
    refine O.leqI rfl rfl ?_
    refine O.pickT (isT rfl c7) ?_
    refine O.mv ?_
    refine O.splitD (x := .tmp 11) rfl (fun c11 => ?_) (fun c11 => ?_)
    ·
      refine O.yes rfl (isT rfl c11) ?_
      refine O.mv ?_
      refine O.yes rfl (isT rfl c11) ?_
      refine O.geqI rfl rfl ?_
      refine O.pickT (isT rfl c11) ?_
      refine O.mv ?_
      refine O.splitD (x := .tmp 15) rfl (fun c15 => ?_) (fun c15 => ?_)
      ·
        refine O.yes rfl (isT rfl c15) ?_
        refine O.mv ?_
        refine O.yes rfl (isT rfl c15) ?_
        refine O.leqI rfl rfl ?_
        refine O.pickT (isT rfl c15) ?_
        refine O.asg ?_
        refine O.nil ?_
        refine hK2 _ _ ?_
        refine C.ret ?_
        refine Outs.one rfl rfl ?_
        refine ⟨congrArg Value.bool ?_, (Le.refl _)⟩
        unfold Ds.okP
        first
        | (rw [decide_eq_false (p := (0 ≤ c ∧ c ≤ 2097152) ∧ (1 ≤ q ∧ q ≤ 2147483647)) (by omega)]; done)
        | (rw [decide_eq_true (p := (0 ≤ c ∧ c ≤ 2097152) ∧ (1 ≤ q ∧ q ≤ 2147483647)) (by omega)]; done)
        | (by_cases hh : q ≤ 2147483647
           · rw [decide_eq_true hh, decide_eq_true (p := (0 ≤ c ∧ c ≤ 2097152) ∧ (1 ≤ q ∧ q ≤ 2147483647)) (by omega)]
           · rw [decide_eq_false hh, decide_eq_false (p := (0 ≤ c ∧ c ≤ 2097152) ∧ (1 ≤ q ∧ q ≤ 2147483647)) (by omega)])
      ·
        refine O.no rfl (noB (isF rfl c15) rfl) ?_
        refine O.no rfl (noB (isF rfl c15) rfl) ?_
        refine O.pickF (isF rfl c15) ?_
        refine O.asg ?_
        refine O.nil ?_
        refine hK2 _ _ ?_
        refine C.ret ?_
        refine Outs.one rfl rfl ?_
        refine ⟨congrArg Value.bool ?_, (Le.refl _)⟩
        unfold Ds.okP
        first
        | (rw [decide_eq_false (p := (0 ≤ c ∧ c ≤ 2097152) ∧ (1 ≤ q ∧ q ≤ 2147483647)) (by omega)]; done)
        | (rw [decide_eq_true (p := (0 ≤ c ∧ c ≤ 2097152) ∧ (1 ≤ q ∧ q ≤ 2147483647)) (by omega)]; done)
        | (by_cases hh : q ≤ 2147483647
           · rw [decide_eq_true hh, decide_eq_true (p := (0 ≤ c ∧ c ≤ 2097152) ∧ (1 ≤ q ∧ q ≤ 2147483647)) (by omega)]
           · rw [decide_eq_false hh, decide_eq_false (p := (0 ≤ c ∧ c ≤ 2097152) ∧ (1 ≤ q ∧ q ≤ 2147483647)) (by omega)])
    ·
      refine O.no rfl (noB (isF rfl c11) rfl) ?_
      refine O.no rfl (noB (isF rfl c11) rfl) ?_
      refine O.pickF (isF rfl c11) ?_
      refine O.mv ?_
      refine O.no rfl (noB rfl rfl) ?_
      refine O.no rfl (noB rfl rfl) ?_
      refine O.pickF rfl ?_
      refine O.asg ?_
      refine O.nil ?_
      refine hK2 _ _ ?_
      refine C.ret ?_
      refine Outs.one rfl rfl ?_
      refine ⟨congrArg Value.bool ?_, (Le.refl _)⟩
      unfold Ds.okP
      first
      | (rw [decide_eq_false (p := (0 ≤ c ∧ c ≤ 2097152) ∧ (1 ≤ q ∧ q ≤ 2147483647)) (by omega)]; done)
      | (rw [decide_eq_true (p := (0 ≤ c ∧ c ≤ 2097152) ∧ (1 ≤ q ∧ q ≤ 2147483647)) (by omega)]; done)
      | (by_cases hh : q ≤ 2147483647
         · rw [decide_eq_true hh, decide_eq_true (p := (0 ≤ c ∧ c ≤ 2097152) ∧ (1 ≤ q ∧ q ≤ 2147483647)) (by omega)]
         · rw [decide_eq_false hh, decide_eq_false (p := (0 ≤ c ∧ c ≤ 2097152) ∧ (1 ≤ q ∧ q ≤ 2147483647)) (by omega)])
  ·
    refine O.no rfl (noB (isF rfl c7) rfl) ?_
    refine O.no rfl (noB (isF rfl c7) rfl) ?_
    refine O.pickF (isF rfl c7) ?_
    refine O.mv ?_
    refine O.no rfl (noB rfl rfl) ?_
    refine O.no rfl (noB rfl rfl) ?_
    refine O.pickF rfl ?_
    refine O.mv ?_
    refine O.no rfl (noB rfl rfl) ?_
    refine O.no rfl (noB rfl rfl) ?_
    refine O.pickF rfl ?_
    refine O.asg ?_
    refine O.nil ?_
    refine hK2 _ _ ?_
    refine C.ret ?_
    refine Outs.one rfl rfl ?_
    refine ⟨congrArg Value.bool ?_, (Le.refl _)⟩
    unfold Ds.okP
    first
    | (rw [decide_eq_false (p := (0 ≤ c ∧ c ≤ 2097152) ∧ (1 ≤ q ∧ q ≤ 2147483647)) (by omega)]; done)
    | (rw [decide_eq_true (p := (0 ≤ c ∧ c ≤ 2097152) ∧ (1 ≤ q ∧ q ≤ 2147483647)) (by omega)]; done)
    | (by_cases hh : q ≤ 2147483647
       · rw [decide_eq_true hh, decide_eq_true (p := (0 ≤ c ∧ c ≤ 2097152) ∧ (1 ≤ q ∧ q ≤ 2147483647)) (by omega)]
       · rw [decide_eq_false hh, decide_eq_false (p := (0 ≤ c ∧ c ≤ 2097152) ∧ (1 ≤ q ∧ q ≤ 2147483647)) (by omega)])

theorem lpriced_spec (c q : Int) (w : World) :
    Ret Tryz.prog 10 #[.int .i64 (c), .int .i64 (q)] w (fun v w' => v = .bool (Ds.okP c q) ∧ Le w w') := by
  refine enter (args := [.int .i64 (c), .int .i64 (q)]) (n := 19) Tryz.func10 rfl rfl (Nat.le_of_ble_eq_true rfl) ?_
  refine C.seqK fun K1 hK1 => ?_
  refine C.region ?_
  refine O.asg ?_
  refine O.nil ?_
  refine hK1 _ _ ?_
  refine C.seqK fun K2 hK2 => ?_
  refine C.region ?_
  refine O.mv ?_
  refine O.geqI rfl rfl ?_
  refine O.mv ?_
  refine O.splitD (x := .tmp 7) rfl (fun c7 => ?_) (fun c7 => ?_)
  ·
    refine O.yes rfl (isT rfl c7) ?_
    refine O.mv ?_
    refine O.yes rfl (isT rfl c7) ?_
    refine O.leqI rfl rfl ?_
    refine O.pickT (isT rfl c7) ?_
    refine O.mv ?_
    refine O.splitD (x := .tmp 11) rfl (fun c11 => ?_) (fun c11 => ?_)
    ·
      refine O.yes rfl (isT rfl c11) ?_
      refine O.mv ?_
      refine O.yes rfl (isT rfl c11) ?_
      refine O.geqI rfl rfl ?_
      refine O.pickT (isT rfl c11) ?_
      refine O.mv ?_
      refine O.splitD (x := .tmp 15) rfl (fun c15 => ?_) (fun c15 => ?_)
      ·
        refine O.yes rfl (isT rfl c15) ?_
        refine O.mv ?_
        refine O.yes rfl (isT rfl c15) ?_
        refine O.leqI rfl rfl ?_
        refine O.pickT (isT rfl c15) ?_
        refine O.asg ?_
        refine O.nil ?_
        refine hK2 _ _ ?_
        refine C.ret ?_
        refine Outs.one rfl rfl ?_
        refine ⟨congrArg Value.bool ?_, (Le.refl _)⟩
        unfold Ds.okP
        first
        | (rw [decide_eq_false (p := (0 ≤ c ∧ c ≤ 2097152) ∧ (1 ≤ q ∧ q ≤ 2147483647)) (by omega)]; done)
        | (rw [decide_eq_true (p := (0 ≤ c ∧ c ≤ 2097152) ∧ (1 ≤ q ∧ q ≤ 2147483647)) (by omega)]; done)
        | (by_cases hh : q ≤ 2147483647
           · rw [decide_eq_true hh, decide_eq_true (p := (0 ≤ c ∧ c ≤ 2097152) ∧ (1 ≤ q ∧ q ≤ 2147483647)) (by omega)]
           · rw [decide_eq_false hh, decide_eq_false (p := (0 ≤ c ∧ c ≤ 2097152) ∧ (1 ≤ q ∧ q ≤ 2147483647)) (by omega)])
      ·
        refine O.no rfl (noB (isF rfl c15) rfl) ?_
        refine O.no rfl (noB (isF rfl c15) rfl) ?_
        refine O.pickF (isF rfl c15) ?_
        refine O.asg ?_
        refine O.nil ?_
        refine hK2 _ _ ?_
        refine C.ret ?_
        refine Outs.one rfl rfl ?_
        refine ⟨congrArg Value.bool ?_, (Le.refl _)⟩
        unfold Ds.okP
        first
        | (rw [decide_eq_false (p := (0 ≤ c ∧ c ≤ 2097152) ∧ (1 ≤ q ∧ q ≤ 2147483647)) (by omega)]; done)
        | (rw [decide_eq_true (p := (0 ≤ c ∧ c ≤ 2097152) ∧ (1 ≤ q ∧ q ≤ 2147483647)) (by omega)]; done)
        | (by_cases hh : q ≤ 2147483647
           · rw [decide_eq_true hh, decide_eq_true (p := (0 ≤ c ∧ c ≤ 2097152) ∧ (1 ≤ q ∧ q ≤ 2147483647)) (by omega)]
           · rw [decide_eq_false hh, decide_eq_false (p := (0 ≤ c ∧ c ≤ 2097152) ∧ (1 ≤ q ∧ q ≤ 2147483647)) (by omega)])
    ·
      refine O.no rfl (noB (isF rfl c11) rfl) ?_
      refine O.no rfl (noB (isF rfl c11) rfl) ?_
      refine O.pickF (isF rfl c11) ?_
      refine O.mv ?_
      refine O.no rfl (noB rfl rfl) ?_
      refine O.no rfl (noB rfl rfl) ?_
      refine O.pickF rfl ?_
      refine O.asg ?_
      refine O.nil ?_
      refine hK2 _ _ ?_
      refine C.ret ?_
      refine Outs.one rfl rfl ?_
      refine ⟨congrArg Value.bool ?_, (Le.refl _)⟩
      unfold Ds.okP
      first
      | (rw [decide_eq_false (p := (0 ≤ c ∧ c ≤ 2097152) ∧ (1 ≤ q ∧ q ≤ 2147483647)) (by omega)]; done)
      | (rw [decide_eq_true (p := (0 ≤ c ∧ c ≤ 2097152) ∧ (1 ≤ q ∧ q ≤ 2147483647)) (by omega)]; done)
      | (by_cases hh : q ≤ 2147483647
         · rw [decide_eq_true hh, decide_eq_true (p := (0 ≤ c ∧ c ≤ 2097152) ∧ (1 ≤ q ∧ q ≤ 2147483647)) (by omega)]
         · rw [decide_eq_false hh, decide_eq_false (p := (0 ≤ c ∧ c ≤ 2097152) ∧ (1 ≤ q ∧ q ≤ 2147483647)) (by omega)])
  ·
    refine O.no rfl (noB (isF rfl c7) rfl) ?_
    refine O.no rfl (noB (isF rfl c7) rfl) ?_
    refine O.pickF (isF rfl c7) ?_
    refine O.mv ?_
    refine O.no rfl (noB rfl rfl) ?_
    refine O.no rfl (noB rfl rfl) ?_
    refine O.pickF rfl ?_
    refine O.mv ?_
    refine O.no rfl (noB rfl rfl) ?_
    refine O.no rfl (noB rfl rfl) ?_
    refine O.pickF rfl ?_
    refine O.asg ?_
    refine O.nil ?_
    refine hK2 _ _ ?_
    refine C.ret ?_
    refine Outs.one rfl rfl ?_
    refine ⟨congrArg Value.bool ?_, (Le.refl _)⟩
    unfold Ds.okP
    first
    | (rw [decide_eq_false (p := (0 ≤ c ∧ c ≤ 2097152) ∧ (1 ≤ q ∧ q ≤ 2147483647)) (by omega)]; done)
    | (rw [decide_eq_true (p := (0 ≤ c ∧ c ≤ 2097152) ∧ (1 ≤ q ∧ q ≤ 2147483647)) (by omega)]; done)
    | (by_cases hh : q ≤ 2147483647
       · rw [decide_eq_true hh, decide_eq_true (p := (0 ≤ c ∧ c ≤ 2097152) ∧ (1 ≤ q ∧ q ≤ 2147483647)) (by omega)]
       · rw [decide_eq_false hh, decide_eq_false (p := (0 ≤ c ∧ c ≤ 2097152) ∧ (1 ≤ q ∧ q ≤ 2147483647)) (by omega)])

theorem valid_spec (r : Ds.Rule) (w : World) (mx : Mx w) :
    Ret Tryz.prog 8 #[Ds.rv r] w (fun v w' => v = .bool (Ds.okR r) ∧ Le w w') := by
  refine enter (args := [Ds.rv r]) (n := 21) Tryz.func8 rfl rfl (Nat.le_of_ble_eq_true rfl) ?_
  refine C.seqK fun K1 hK1 => ?_
  refine C.region ?_
  refine O.box (v := Ds.rv r) rfl (fun b1 w1 hb1 hz1 e1 => ?_)
  have z1 := e1.size
  have h1 := hz1.own
  have hl1 := h1.lt
  refine O.asg ?_
  refine O.nil ?_
  refine hK1 _ _ ?_
  refine C.seqK fun K2 hK2 => ?_
  refine C.region ?_
  refine O.fieldAd Tryz.underlying24 rfl Tryz.sizeOf9 (by decide) rfl ?_
  refine O.loadO Tryz.isAgg9 rfl h1 rfl ?_
  refine O.call Tryz.call31 (args1 rfl) (okName_spec r.name _ r.hn (mx.keep e1)) ?_
  rintro v_5 w2 ⟨rfl, e2⟩
  have z2 := e2.size
  refine O.mv ?_
  refine O.split (x := .tmp 6) rfl (fun c6 => ?_) (fun c6 => ?_)
  ·
    refine O.yes rfl (isT' rfl c6) ?_
    refine O.fieldAd Tryz.underlying24 rfl Tryz.sizeOf3 (by decide) rfl ?_
    refine O.yes rfl (isT' rfl c6) ?_
    refine O.loadO Tryz.isAgg3 rfl (h1.keep e2) rfl ?_
    refine O.yes rfl (isT' rfl c6) ?_
    refine O.geqI rfl rfl ?_
    refine O.pickT (isT' rfl c6) ?_
    refine O.mv ?_
    refine O.splitD (x := .tmp 11) rfl (fun c11 => ?_) (fun c11 => ?_)
    ·
      refine O.yes rfl (isT rfl c11) ?_
      refine O.fieldAd Tryz.underlying24 rfl Tryz.sizeOf3 (by decide) rfl ?_
      refine O.yes rfl (isT rfl c11) ?_
      refine O.loadO Tryz.isAgg3 rfl (h1.keep e2) rfl ?_
      refine O.yes rfl (isT rfl c11) ?_
      refine O.leqI rfl rfl ?_
      refine O.pickT (isT rfl c11) ?_
      refine O.mv ?_
      refine O.splitD (x := .tmp 16) rfl (fun c16 => ?_) (fun c16 => ?_)
      ·
        refine O.yes rfl (isT rfl c16) ?_
        refine O.fieldAd Tryz.underlying24 rfl Tryz.sizeOf22 (by decide) rfl ?_
        refine O.yes rfl (isT rfl c16) ?_
        refine O.loadO Tryz.isAgg22 rfl (h1.keep e2) rfl ?_
        refine O.yes rfl (isT rfl c16) ?_
        refine O.call Tryz.call32 (args1 rfl) (part_spec r.fac _) ?_
        rintro v_19 w3 ⟨rfl, e3⟩
        have z3 := e3.size
        refine O.pickT (isT rfl c16) ?_
        refine O.asg ?_
        refine O.nil ?_
        refine hK2 _ _ ?_
        refine C.ret ?_
        refine Outs.one rfl rfl ?_
        refine ⟨congrArg Value.bool ?_, (Ext.trans (Ext.trans e1 e2) e3)⟩
        unfold Ds.okR
        first
        | (rw [c6]; rfl)
        | (rw [c6, decide_eq_false (p := 1 ≤ r.lo ∧ r.lo ≤ 2147483647) (by omega)]; rfl)
        | (rw [c6, decide_eq_true (p := 1 ≤ r.lo ∧ r.lo ≤ 2147483647) (by omega)]; rfl)
      ·
        refine O.no rfl (noB (isF rfl c16) rfl) ?_
        refine O.no rfl (noB (isF rfl c16) rfl) ?_
        refine O.no rfl (noB (isF rfl c16) rfl) ?_
        refine O.pickF (isF rfl c16) ?_
        refine O.asg ?_
        refine O.nil ?_
        refine hK2 _ _ ?_
        refine C.ret ?_
        refine Outs.one rfl rfl ?_
        refine ⟨congrArg Value.bool ?_, (Ext.trans e1 e2)⟩
        unfold Ds.okR
        first
        | (rw [c6]; rfl)
        | (rw [c6, decide_eq_false (p := 1 ≤ r.lo ∧ r.lo ≤ 2147483647) (by omega)]; rfl)
        | (rw [c6, decide_eq_true (p := 1 ≤ r.lo ∧ r.lo ≤ 2147483647) (by omega)]; rfl)
    ·
      refine O.no rfl (noB (isF rfl c11) rfl) ?_
      refine O.no rfl (noB (isF rfl c11) rfl) ?_
      refine O.no rfl (noB (isF rfl c11) rfl) ?_
      refine O.pickF (isF rfl c11) ?_
      refine O.mv ?_
      refine O.no rfl (noB rfl rfl) ?_
      refine O.no rfl (noB rfl rfl) ?_
      refine O.no rfl (noB rfl rfl) ?_
      refine O.pickF rfl ?_
      refine O.asg ?_
      refine O.nil ?_
      refine hK2 _ _ ?_
      refine C.ret ?_
      refine Outs.one rfl rfl ?_
      refine ⟨congrArg Value.bool ?_, (Ext.trans e1 e2)⟩
      unfold Ds.okR
      first
      | (rw [c6]; rfl)
      | (rw [c6, decide_eq_false (p := 1 ≤ r.lo ∧ r.lo ≤ 2147483647) (by omega)]; rfl)
      | (rw [c6, decide_eq_true (p := 1 ≤ r.lo ∧ r.lo ≤ 2147483647) (by omega)]; rfl)
  ·
    refine O.no rfl (noB (isF' rfl c6) rfl) ?_
    refine O.no rfl (noB (isF' rfl c6) rfl) ?_
    refine O.no rfl (noB (isF' rfl c6) rfl) ?_
    refine O.pickF (isF' rfl c6) ?_
    refine O.mv ?_
    refine O.no rfl (noB rfl rfl) ?_
    refine O.no rfl (noB rfl rfl) ?_
    refine O.no rfl (noB rfl rfl) ?_
    refine O.pickF rfl ?_
    refine O.mv ?_
    refine O.no rfl (noB rfl rfl) ?_
    refine O.no rfl (noB rfl rfl) ?_
    refine O.no rfl (noB rfl rfl) ?_
    refine O.pickF rfl ?_
    refine O.asg ?_
    refine O.nil ?_
    refine hK2 _ _ ?_
    refine C.ret ?_
    refine Outs.one rfl rfl ?_
    refine ⟨congrArg Value.bool ?_, (Ext.trans e1 e2)⟩
    unfold Ds.okR
    first
    | (rw [c6]; rfl)
    | (rw [c6, decide_eq_false (p := 1 ≤ r.lo ∧ r.lo ≤ 2147483647) (by omega)]; rfl)
    | (rw [c6, decide_eq_true (p := 1 ≤ r.lo ∧ r.lo ≤ 2147483647) (by omega)]; rfl)

theorem lvalid_spec (r : Ds.Rule) (w : World) (mx : Mx w) :
    Ret Tryz.prog 9 #[Ds.rv r] w (fun v w' => v = .bool (Ds.okR r) ∧ Le w w') := by
  refine enter (args := [Ds.rv r]) (n := 21) Tryz.func9 rfl rfl (Nat.le_of_ble_eq_true rfl) ?_
  refine C.seqK fun K1 hK1 => ?_
  refine C.region ?_
  refine O.box (v := Ds.rv r) rfl (fun b1 w1 hb1 hz1 e1 => ?_)
  have z1 := e1.size
  have h1 := hz1.own
  have hl1 := h1.lt
  refine O.asg ?_
  refine O.nil ?_
  refine hK1 _ _ ?_
  refine C.seqK fun K2 hK2 => ?_
  refine C.region ?_
  refine O.fieldAd Tryz.underlying24 rfl Tryz.sizeOf9 (by decide) rfl ?_
  refine O.loadO Tryz.isAgg9 rfl h1 rfl ?_
  refine O.call Tryz.call31 (args1 rfl) (okName_spec r.name _ r.hn (mx.keep e1)) ?_
  rintro v_5 w2 ⟨rfl, e2⟩
  have z2 := e2.size
  refine O.mv ?_
  refine O.split (x := .tmp 6) rfl (fun c6 => ?_) (fun c6 => ?_)
  ·
    refine O.yes rfl (isT' rfl c6) ?_
    refine O.fieldAd Tryz.underlying24 rfl Tryz.sizeOf3 (by decide) rfl ?_
    refine O.yes rfl (isT' rfl c6) ?_
    refine O.loadO Tryz.isAgg3 rfl (h1.keep e2) rfl ?_
    refine O.yes rfl (isT' rfl c6) ?_
    refine O.geqI rfl rfl ?_
    refine O.pickT (isT' rfl c6) ?_
    refine O.mv ?_
    refine O.splitD (x := .tmp 11) rfl (fun c11 => ?_) (fun c11 => ?_)
    ·
      refine O.yes rfl (isT rfl c11) ?_
      refine O.fieldAd Tryz.underlying24 rfl Tryz.sizeOf3 (by decide) rfl ?_
      refine O.yes rfl (isT rfl c11) ?_
      refine O.loadO Tryz.isAgg3 rfl (h1.keep e2) rfl ?_
      refine O.yes rfl (isT rfl c11) ?_
      refine O.leqI rfl rfl ?_
      refine O.pickT (isT rfl c11) ?_
      refine O.mv ?_
      refine O.splitD (x := .tmp 16) rfl (fun c16 => ?_) (fun c16 => ?_)
      ·
        refine O.yes rfl (isT rfl c16) ?_
        refine O.fieldAd Tryz.underlying24 rfl Tryz.sizeOf22 (by decide) rfl ?_
        refine O.yes rfl (isT rfl c16) ?_
        refine O.loadO Tryz.isAgg22 rfl (h1.keep e2) rfl ?_
        refine O.yes rfl (isT rfl c16) ?_
        refine O.call Tryz.call11 (args1 rfl) (lpart_spec r.fac _) ?_
        rintro v_19 w3 ⟨rfl, e3⟩
        have z3 := e3.size
        refine O.pickT (isT rfl c16) ?_
        refine O.asg ?_
        refine O.nil ?_
        refine hK2 _ _ ?_
        refine C.ret ?_
        refine Outs.one rfl rfl ?_
        refine ⟨congrArg Value.bool ?_, (Ext.trans (Ext.trans e1 e2) e3)⟩
        unfold Ds.okR
        first
        | (rw [c6]; rfl)
        | (rw [c6, decide_eq_false (p := 1 ≤ r.lo ∧ r.lo ≤ 2147483647) (by omega)]; rfl)
        | (rw [c6, decide_eq_true (p := 1 ≤ r.lo ∧ r.lo ≤ 2147483647) (by omega)]; rfl)
      ·
        refine O.no rfl (noB (isF rfl c16) rfl) ?_
        refine O.no rfl (noB (isF rfl c16) rfl) ?_
        refine O.no rfl (noB (isF rfl c16) rfl) ?_
        refine O.pickF (isF rfl c16) ?_
        refine O.asg ?_
        refine O.nil ?_
        refine hK2 _ _ ?_
        refine C.ret ?_
        refine Outs.one rfl rfl ?_
        refine ⟨congrArg Value.bool ?_, (Ext.trans e1 e2)⟩
        unfold Ds.okR
        first
        | (rw [c6]; rfl)
        | (rw [c6, decide_eq_false (p := 1 ≤ r.lo ∧ r.lo ≤ 2147483647) (by omega)]; rfl)
        | (rw [c6, decide_eq_true (p := 1 ≤ r.lo ∧ r.lo ≤ 2147483647) (by omega)]; rfl)
    ·
      refine O.no rfl (noB (isF rfl c11) rfl) ?_
      refine O.no rfl (noB (isF rfl c11) rfl) ?_
      refine O.no rfl (noB (isF rfl c11) rfl) ?_
      refine O.pickF (isF rfl c11) ?_
      refine O.mv ?_
      refine O.no rfl (noB rfl rfl) ?_
      refine O.no rfl (noB rfl rfl) ?_
      refine O.no rfl (noB rfl rfl) ?_
      refine O.pickF rfl ?_
      refine O.asg ?_
      refine O.nil ?_
      refine hK2 _ _ ?_
      refine C.ret ?_
      refine Outs.one rfl rfl ?_
      refine ⟨congrArg Value.bool ?_, (Ext.trans e1 e2)⟩
      unfold Ds.okR
      first
      | (rw [c6]; rfl)
      | (rw [c6, decide_eq_false (p := 1 ≤ r.lo ∧ r.lo ≤ 2147483647) (by omega)]; rfl)
      | (rw [c6, decide_eq_true (p := 1 ≤ r.lo ∧ r.lo ≤ 2147483647) (by omega)]; rfl)
  ·
    refine O.no rfl (noB (isF' rfl c6) rfl) ?_
    refine O.no rfl (noB (isF' rfl c6) rfl) ?_
    refine O.no rfl (noB (isF' rfl c6) rfl) ?_
    refine O.pickF (isF' rfl c6) ?_
    refine O.mv ?_
    refine O.no rfl (noB rfl rfl) ?_
    refine O.no rfl (noB rfl rfl) ?_
    refine O.no rfl (noB rfl rfl) ?_
    refine O.pickF rfl ?_
    refine O.mv ?_
    refine O.no rfl (noB rfl rfl) ?_
    refine O.no rfl (noB rfl rfl) ?_
    refine O.no rfl (noB rfl rfl) ?_
    refine O.pickF rfl ?_
    refine O.asg ?_
    refine O.nil ?_
    refine hK2 _ _ ?_
    refine C.ret ?_
    refine Outs.one rfl rfl ?_
    refine ⟨congrArg Value.bool ?_, (Ext.trans e1 e2)⟩
    unfold Ds.okR
    first
    | (rw [c6]; rfl)
    | (rw [c6, decide_eq_false (p := 1 ≤ r.lo ∧ r.lo ≤ 2147483647) (by omega)]; rfl)
    | (rw [c6, decide_eq_true (p := 1 ≤ r.lo ∧ r.lo ≤ 2147483647) (by omega)]; rfl)

theorem floor_spec (x : BitVec 64) (w : World) (hp : Rnd.Pos x) :
    Ret Tryz.prog 52 #[fl (x)] w (fun v w' => v = fl (Rnd.nf (Rnd.wh x)) ∧ w' = w) := by
  refine enter (args := [fl (x)]) (n := 7) Tryz.func52 rfl rfl (Nat.le_of_ble_eq_true rfl) ?_
  refine C.seqK fun K1 hK1 => ?_
  refine C.region ?_
  refine O.asg ?_
  refine O.nil ?_
  refine hK1 _ _ ?_
  refine C.seqK fun K2 hK2 => ?_
  refine C.condT rfl ?_
  refine C.seqK fun K3 hK3 => ?_
  refine C.region ?_
  refine O.mv ?_
  refine O.ext ext67 (args1 rfl) (Rnd.run_floor_pos hp) ?_
  refine O.asg ?_
  refine O.nil ?_
  refine hK3 _ _ ?_
  refine C.ret ?_
  refine Outs.one rfl rfl ?_
  exact ⟨rfl, rfl⟩

theorem price_spec (c q : Nat) (f : BitVec 64) (w : World) (hc : c ≤ 2097152) (hq : q ≤ 2147483647) (hu : Rnd.Unit (Fl.canon f)) :
    Ret Tryz.prog 40 #[.int .i64 ((c : Int)), .int .i64 ((q : Int)), fl (f)] w (fun v w' => v = .int .i64 (Rnd.price (c * q) (Fl.canon f) : Nat) ∧ Le w w') := by
  have hcq := Nat.mul_le_mul hc hq
  have hn : c * q < 9007199254740992 := by omega
  have hpp := Rnd.prod_pos hn hu
  have hpl := Rnd.price_le hn hu
  have hpw : Rnd.wh (Rnd.pm (Rnd.nf (c * q)) (Fl.canon f)) < 9007199254740992 := by unfold Rnd.price at hpl; omega
  refine enter (args := [.int .i64 ((c : Int)), .int .i64 ((q : Int)), fl (f)]) (n := 16) Tryz.func40 rfl rfl (Nat.le_of_ble_eq_true rfl) ?_
  refine C.seqK fun K1 hK1 => ?_
  refine C.region ?_
  refine O.asg ?_
  refine O.nil ?_
  refine hK1 _ _ ?_
  refine C.seqK fun K2 hK2 => ?_
  refine C.region ?_
  refine O.mv ?_
  refine O.mv ?_
  refine O.mulI rfl rfl (by have hz : ((c * q : Nat) : Int) = (c : Int) * (q : Int) := Int.natCast_mul _ _; unfold InI; omega) ?_
  refine O.cast (v' := .int .i64 ((c * q : Nat) : Int)) (congrArg (Value.int .i64) (Int.natCast_mul _ _).symm) ?_
  refine O.convIF Tryz.underlying3 Tryz.underlying22 rfl ?_
  refine O.cast (v' := fl (Rnd.nf (c * q))) (congrArg fl (Rnd.ofI_nf (c * q))) ?_
  refine O.mv ?_
  refine O.call Tryz.call35 (args1 rfl) (canon_spec _ _) ?_
  rintro v_12 w1 ⟨rfl, hw_⟩
  replace hw_ := hw_.symm
  subst hw_
  refine O.mulF rfl rfl (fun r13 w1 e1 hf13 => ?_)
  have z1 := e1.size
  obtain rfl := Rnd.mul_pos (Rnd.nf_pos hn) hu.pos hf13
  refine O.call Tryz.call52 (args1 rfl) (floor_spec _ _ hpp) ?_
  rintro v_14 w2 ⟨rfl, hw_⟩
  replace hw_ := hw_.symm
  subst hw_
  refine O.convFI Tryz.underlying22 Tryz.underlying3 (Rnd.toInt_pos (Rnd.nf_pos hpw) (by rw [Rnd.wh_nf hpw]; exact hpw)) rfl ?_
  refine O.cast (v' := .int .i64 (Rnd.price (c * q) (Fl.canon f) : Nat)) (congrArg (Value.int .i64) (by rw [Rnd.wh_nf hpw]; rfl)) ?_
  refine O.asg ?_
  refine O.nil ?_
  refine hK2 _ _ ?_
  refine C.ret ?_
  refine Outs.one rfl rfl ?_
  exact ⟨rfl, e1⟩

end Go.Proofs.YtbadfphdniliaaaGreatDoor
end
section
/-
  The walks of whole numbers compared. Conditions: slices as they lie in memory.
-/
namespace Go.Proofs.YtbadfphdniliaaaGreatDoor
open Go.Pn Go.RowKit

theorem inf3 : ∃ ie, Tryz.prog.info? 3 = some ie ∧ ie.size = 1 ∧ ie.bytes = 8 ∧ ie.zero = some (.int .i64 0) := by
  have h : (Tryz.prog.info? 3).isSome = true := by kernel_rfl
  exact ⟨(Tryz.prog.info? 3).get h, (Option.some_get h).symm, by kernel_rfl, by kernel_rfl, by kernel_rfl⟩
theorem isNaNi_spec (x : Int) (w : World) :
    Ret Tryz.prog 55 #[.int .i64 (x)] w (fun v w' => v = .bool false ∧ w' = w) := by
  refine enter (args := [.int .i64 (x)]) (n := 6) Tryz.func55 rfl rfl (Nat.le_of_ble_eq_true rfl) ?_
  refine C.seqK fun K1 hK1 => ?_
  refine C.region ?_
  refine O.asg ?_
  refine O.nil ?_
  refine hK1 _ _ ?_
  refine C.seqK fun K2 hK2 => ?_
  refine C.region ?_
  refine O.mv ?_
  refine O.mv ?_
  refine O.neqI rfl rfl ?_
  refine O.cast (v' := .bool false) (congrArg Value.bool (by exact decide_eq_false (fun h => h rfl))) ?_
  refine O.asg ?_
  refine O.nil ?_
  refine hK2 _ _ ?_
  refine C.ret ?_
  refine Outs.one rfl rfl ?_
  exact ⟨rfl, rfl⟩

theorem icmp_spec (a b : Int) (w : World) :
    Ret Tryz.prog 43 #[.int .i64 (a), .int .i64 (b)] w (fun v w' => v = .int .i64 (Dt.icmp a b) ∧ w' = w) := by
  refine enter (args := [.int .i64 (a), .int .i64 (b)]) (n := 20) Tryz.func43 rfl rfl (Nat.le_of_ble_eq_true rfl) ?_
  refine C.seqK fun K1 hK1 => ?_
  refine C.region ?_
  refine O.asg ?_
  refine O.nil ?_
  refine hK1 _ _ ?_
  refine C.seqK fun K2 hK2 => ?_
  refine C.region ?_
  refine O.mv ?_
  refine O.call Tryz.call55 (args1 rfl) (isNaNi_spec _ _) ?_
  rintro v_8 w1 ⟨rfl, hw_⟩
  replace hw_ := hw_.symm
  subst hw_
  refine O.asg ?_
  refine O.nil ?_
  refine hK2 _ _ ?_
  refine C.seqK fun K3 hK3 => ?_
  refine C.region ?_
  refine O.mv ?_
  refine O.call Tryz.call55 (args1 rfl) (isNaNi_spec _ _) ?_
  rintro v_10 w1 ⟨rfl, hw_⟩
  replace hw_ := hw_.symm
  subst hw_
  refine O.asg ?_
  refine O.nil ?_
  refine hK3 _ _ ?_
  refine C.seqK fun K4 hK4 => ?_
  refine C.seqK fun K5 hK5 => ?_
  refine C.region ?_
  refine O.mv ?_
  refine O.nil ?_
  refine hK5 _ _ ?_
  refine C.condF rfl ?_
  refine C.skip ?_
  refine hK4 _ _ ?_
  refine C.seqK fun K6 hK6 => ?_
  refine C.seqK fun K7 hK7 => ?_
  refine C.region ?_
  refine O.mv ?_
  refine O.nil ?_
  refine hK7 _ _ ?_
  refine C.condF rfl ?_
  refine C.skip ?_
  refine hK6 _ _ ?_
  refine C.seqK fun K8 hK8 => ?_
  refine C.seqK fun K9 hK9 => ?_
  refine C.region ?_
  refine O.mv ?_
  refine O.mv ?_
  refine O.lssI rfl rfl ?_
  refine O.nil ?_
  refine hK9 _ _ ?_
  refine C.condD rfl (fun c16 => ?_) (fun c16 => ?_)
  ·
    refine C.seqK fun K10 hK10 => ?_
    refine C.region ?_
    refine O.asg ?_
    refine O.nil ?_
    refine hK10 _ _ ?_
    refine C.ret ?_
    refine Outs.one rfl rfl ?_
    unfold Dt.icmp
    first
    | (rw [if_pos (by assumption)]; exact ⟨rfl, rfl⟩)
    | (rw [if_neg (by assumption), if_pos (by assumption)]; exact ⟨rfl, rfl⟩)
    | (rw [if_neg (by assumption), if_neg (by assumption)]; exact ⟨rfl, rfl⟩)
  ·
    refine C.skip ?_
    refine hK8 _ _ ?_
    refine C.seqK fun K11 hK11 => ?_
    refine C.seqK fun K12 hK12 => ?_
    refine C.region ?_
    refine O.mv ?_
    refine O.mv ?_
    refine O.gtrI rfl rfl ?_
    refine O.nil ?_
    refine hK12 _ _ ?_
    refine C.condD rfl (fun c19 => ?_) (fun c19 => ?_)
    ·
      refine C.seqK fun K13 hK13 => ?_
      refine C.region ?_
      refine O.asg ?_
      refine O.nil ?_
      refine hK13 _ _ ?_
      refine C.ret ?_
      refine Outs.one rfl rfl ?_
      unfold Dt.icmp
      first
      | (rw [if_pos (by assumption)]; exact ⟨rfl, rfl⟩)
      | (rw [if_neg (by assumption), if_pos (by assumption)]; exact ⟨rfl, rfl⟩)
      | (rw [if_neg (by assumption), if_neg (by assumption)]; exact ⟨rfl, rfl⟩)
    ·
      refine C.skip ?_
      refine hK11 _ _ ?_
      refine C.seqK fun K14 hK14 => ?_
      refine C.region ?_
      refine O.asg ?_
      refine O.nil ?_
      refine hK14 _ _ ?_
      refine C.ret ?_
      refine Outs.one rfl rfl ?_
      unfold Dt.icmp
      first
      | (rw [if_pos (by assumption)]; exact ⟨rfl, rfl⟩)
      | (rw [if_neg (by assumption), if_pos (by assumption)]; exact ⟨rfl, rfl⟩)
      | (rw [if_neg (by assumption), if_neg (by assumption)]; exact ⟨rfl, rfl⟩)

theorem cor_spec (v0 : Value) (a b : Int) (F : Nat → Prop) (w : World) (hl : Sl Dt.intE w F v0 [a, b]) :
    Ret Tryz.prog 42 #[v0] w (fun v w' => v = .int .i64 (if a ≠ 0 then a else b) ∧ w' = w) := by
  refine enter (args := [v0]) (n := 18) Tryz.func42 rfl rfl (Nat.le_of_ble_eq_true rfl) ?_
  refine C.seqK fun K1 hK1 => ?_
  refine C.region ?_
  refine O.asg ?_
  refine O.nil ?_
  refine hK1 _ _ ?_
  refine C.seqK fun K2 hK2 => ?_
  refine C.region ?_
  refine O.asg ?_
  refine O.nil ?_
  refine hK2 _ _ ?_
  refine C.seqK fun K3 hK3 => ?_
  refine C.seqK fun K4 hK4 => ?_
  refine C.region ?_
  refine O.mv ?_
  refine O.len Tryz.underlying43 rfl hl ?_
  refine O.mv ?_
  refine O.nil ?_
  refine hK4 _ _ ?_
  refine C.block fun K5 hK5 => ?_
  refine C.loop0 (σ := Nat) (fun f0 w0 k f w => f 8 = .int .i64 (k) ∧ f 3 = f0 3 ∧ f 6 = f0 6 ∧ f 7 = f0 7 ∧ w = w0 ∧ k ≤ 2 ∧ ∀ i, (h : i < 2) → i < k → [a, b][i] = 0) (fun k => 2 - k) 0 ?_ ?_
  ·
    refine ⟨rfl, rfl, rfl, rfl, rfl, ?_⟩
    exact ⟨by omega, fun i _ h => absurd h (by omega)⟩
  ·
    rintro k f_1 wx ⟨s8_1, s3_1, s6_1, s7_1, rfl, ⟨hk, hI⟩⟩
    refine C.seqK fun K6 hK6 => ?_
    refine C.region ?_
    refine O.lssI s8_1 s7_1 ?_
    refine O.nil ?_
    refine hK6 _ _ ?_
    refine C.seqK fun K7 hK7 => ?_
    refine C.condD rfl (fun c9 => ?_) (fun c9 => ?_)
    ·
      have hk2 : k < 2 := by simp at c9; omega
      refine C.skip ?_
      refine hK7 _ _ ?_
      refine C.seqK fun K8 hK8 => ?_
      refine C.block fun K9 hK9 => ?_
      refine C.seqK fun K10 hK10 => ?_
      refine C.region ?_
      refine O.idx Tryz.underlying43 Tryz.sizeOf3 rfl s6_1 hl s8_1 (by omega) (fun a10 h10 => ?_)
      refine O.load1F (G := Dt.intF) Tryz.isAgg3 rfl rfl rfl h10 ?_
      obtain ⟨u, hu⟩ : ∃ u : Int, u = [a, b][k] := ⟨_, rfl⟩
      refine O.cast (v' := .int .i64 u) (by rw [hu]; rfl) ?_
      refine O.asg ?_
      refine O.nil ?_
      refine hK10 _ _ ?_
      refine C.seqK fun K11 hK11 => ?_
      refine C.region ?_
      refine O.mv ?_
      refine O.mv ?_
      refine O.neqI rfl s3_1 ?_
      refine O.nil ?_
      refine hK11 _ _ ?_
      refine C.condD rfl (fun c14 => ?_) (fun c14 => ?_)
      ·
        refine C.seqK fun K12 hK12 => ?_
        refine C.region ?_
        refine O.mv ?_
        refine O.asg ?_
        refine O.nil ?_
        refine hK12 _ _ ?_
        refine C.ret ?_
        refine Outs.one rfl rfl ?_
        first
        | (refine ⟨congrArg (Value.int .i64) ?_, rfl⟩
           have h01 : k = 0 ∨ k = 1 := by omega
           rcases h01 with rfl | rfl
           · have e0 : u = a := hu
             rw [← e0, if_pos c14]
           · have e0 : a = 0 := hI 0 (by omega) (by omega)
             have e1 : u = b := hu
             rw [if_neg (fun h => h e0), e1])
        | (have hk2 : k = 2 := by simp at c9; omega
           have e0 : a = 0 := hI 0 (by omega) (by omega)
           have e1 : b = 0 := hI 1 (by omega) (by omega)
           refine ⟨congrArg (Value.int .i64) ?_, rfl⟩
           rw [if_neg (fun h => h e0), e1])
      ·
        refine C.skip ?_
        refine hK9 _ _ ?_
        refine hK8 _ _ ?_
        refine C.region ?_
        refine O.addI s8_1 rfl (by unfold InI; omega) ?_
        refine O.mv ?_
        refine O.nil ?_
        refine ⟨k + 1, ⟨rfl, s3_1, s6_1, s7_1, rfl, ?_⟩, by first | omega | (simp only []; omega)⟩
        refine ⟨by omega, fun i hi2 hik => ?_⟩
        rcases Nat.lt_or_eq_of_le (Nat.le_of_lt_succ hik) with h | rfl
        · exact hI i hi2 h
        · rw [← hu]; exact Decidable.of_not_not c14
    ·
      refine C.exit ?_
      refine hK5 _ _ ?_
      refine hK3 _ _ ?_
      refine C.seqK fun K13 hK13 => ?_
      refine C.region ?_
      refine O.mv ?_
      refine O.asg ?_
      refine O.nil ?_
      refine hK13 _ _ ?_
      refine C.ret ?_
      refine Outs.one rfl s3_1 ?_
      first
      | (refine ⟨congrArg (Value.int .i64) ?_, rfl⟩
         have h01 : k = 0 ∨ k = 1 := by omega
         rcases h01 with rfl | rfl
         · have e0 : u = a := hu
           rw [← e0, if_pos c14]
         · have e0 : a = 0 := hI 0 (by omega) (by omega)
           have e1 : u = b := hu
           rw [if_neg (fun h => h e0), e1])
      | (have hk2 : k = 2 := by simp at c9; omega
         have e0 : a = 0 := hI 0 (by omega) (by omega)
         have e1 : b = 0 := hI 1 (by omega) (by omega)
         refine ⟨congrArg (Value.int .i64) ?_, rfl⟩
         rw [if_neg (fun h => h e0), e1])

end Go.Proofs.YtbadfphdniliaaaGreatDoor
end
section
/-
  The walks of discounts: errors, prices, the best rule. Conditions: what the library's variable holds; slices as they lie in memory.
-/
namespace Go.Proofs.YtbadfphdniliaaaGreatDoor
open Go.Pn Go.RowKit Go.Proofs
attribute [local irreducible] O C D

theorem tup2 {a b c d : Int} (h1 : a = c) (h2 : b = d) : Value.tuple #[.int .i64 a, .int .i64 b] = Value.tuple #[.int .i64 c, .int .i64 d] := by rw [h1, h2]
theorem tup3 {a b c d e f : Int} (h1 : a = d) (h2 : b = e) (h3 : c = f) : Value.tuple #[.int .i64 a, .int .i64 b, .int .i64 c] = Value.tuple #[.int .i64 d, .int .i64 e, .int .i64 f] := by rw [h1, h2, h3]
theorem tupf {a c d f : Int} {b e : BitVec 64} (h1 : a = d) (h2 : b = e) (h3 : c = f) : Value.tuple #[.int .i64 a, fl b, .int .i64 c] = Value.tuple #[.int .i64 d, fl e, .int .i64 f] := by rw [h1, h2, h3]
theorem inf24 : ∃ ie, Tryz.prog.info? 24 = some ie ∧ ie.size = 3 ∧ ie.bytes = 32 ∧ ie.zero = some (.agg #[.string ⟨#[]⟩, .int .i64 0, .float .f64 0]) := by
  have h : (Tryz.prog.info? 24).isSome = true := by kernel_rfl
  exact ⟨(Tryz.prog.info? 24).get h, (Option.some_get h).symm, by kernel_rfl, by kernel_rfl, by kernel_rfl⟩
theorem rbad_spec (r : Ds.Rule) (w : World) (mx : Mx w) :
    Ret Tryz.prog 54 #[Ds.rv r] w (fun v w' => v = .bool (Ds.badR r) ∧ Le w w') := by
  refine enter (args := [Ds.rv r]) (n := 6) Tryz.func54 rfl rfl (Nat.le_of_ble_eq_true rfl) ?_
  refine C.seqK fun K1 hK1 => ?_
  refine C.region ?_
  refine O.box (v := Ds.rv r) rfl (fun b1 w1 hb1 hz1 e1 => ?_)
  have z1 := e1.size
  have h1 := hz1.own
  have hl1 := h1.lt
  refine O.asg ?_
  refine O.nil ?_
  refine hK1 _ _ ?_
  refine C.seqK fun K2 hK2 => ?_
  refine C.region ?_
  refine O.loadOA Tryz.isAgg24 Tryz.sizeOf24 rfl h1 (Nat.le_of_ble_eq_true rfl) ?_
  refine O.call Tryz.call8 (args1 rfl) (valid_spec r _ (mx.keep e1)) ?_
  rintro v_4 w2 ⟨rfl, e2⟩
  have z2 := e2.size
  refine O.not rfl ?_
  refine O.asg ?_
  refine O.nil ?_
  refine hK2 _ _ ?_
  refine C.ret ?_
  refine Outs.one rfl rfl ?_
  exact ⟨rfl, (Ext.trans e1 e2)⟩

theorem pred_rbad (w : World) (mx : Mx w) : Pred Tryz.prog (fun _ => False) w (.func (.func 54) #[] #[]) Ds.rv Ds.badR := ⟨54, [], rfl, Tryz.call54, fun r w' e => rbad_spec r w' (mx.keep e)⟩
theorem indexR_spec (v0 vf : Value) (l : List Ds.Rule) (F M : Nat → Prop) (p : Ds.Rule → Bool) (w : World) (hl : Sl Ds.ruleF.enc w F v0 l) (hp : Pred Tryz.prog M w vf Ds.rv p) :
    Ret Tryz.prog 69 #[v0, vf] w (fun v w' => v = .int .i64 (Cn.idx p l) ∧ Le w w') := by
  have hle := hl.le
  refine enter (args := [v0, vf]) (n := 19) Tryz.func69 rfl rfl (Nat.le_of_ble_eq_true rfl) ?_
  refine C.seqK fun K1 hK1 => ?_
  refine C.region ?_
  refine O.asg ?_
  refine O.nil ?_
  refine hK1 _ _ ?_
  refine C.seqK fun K2 hK2 => ?_
  refine C.seqK fun K3 hK3 => ?_
  refine C.region ?_
  refine O.mv ?_
  refine O.len Tryz.underlying32 rfl hl ?_
  refine O.mv ?_
  refine O.nil ?_
  refine hK3 _ _ ?_
  refine C.block fun K4 hK4 => ?_
  refine C.loop0 (σ := Nat) (fun f0 w0 k f wz => f 8 = .int .i64 (k) ∧ f 0 = f0 0 ∧ f 1 = f0 1 ∧ f 7 = f0 7 ∧ Le w wz ∧ k ≤ l.length ∧ ∀ i, ∀ h : i < l.length, i < k → p l[i] = false) (fun k => l.length - k) 0 ?_ ?_
  ·
    refine ⟨rfl, rfl, rfl, rfl, (Le.refl _), ?_⟩
    exact ⟨Nat.zero_le _, fun i h k => absurd k (Nat.not_lt_zero _)⟩
  ·
    rintro k f_1 w1 ⟨s8_1, s0_1, s1_1, s7_1, e_1, ⟨hk, hI⟩⟩
    have z_1 := e_1.size
    refine C.seqK fun K5 hK5 => ?_
    refine C.region ?_
    refine O.lssI s8_1 s7_1 ?_
    refine O.nil ?_
    refine hK5 _ _ ?_
    refine C.seqK fun K6 hK6 => ?_
    refine C.condD rfl (fun c9 => ?_) (fun c9 => ?_)
    ·
      have hk2 : k < l.length := by omega
      refine C.skip ?_
      refine hK6 _ _ ?_
      refine C.seqK fun K7 hK7 => ?_
      refine C.block fun K8 hK8 => ?_
      refine C.seqK fun K9 hK9 => ?_
      refine C.region ?_
      refine O.mv ?_
      refine O.asg ?_
      refine O.nil ?_
      refine hK9 _ _ ?_
      refine C.seqK fun K10 hK10 => ?_
      refine C.region ?_
      refine O.mv ?_
      refine O.mv ?_
      refine O.mv ?_
      refine O.idx Tryz.underlying32 Tryz.sizeOf24 rfl s0_1 (hl.keep e_1) s8_1 (by omega) (fun a14 h14 => ?_)
      refine O.loadG (G := Ds.ruleF) Tryz.isAgg24 Tryz.sizeOf24 rfl h14 ?_
      refine O.callP (_) (hp.keep e_1) s1_1 rfl (fun w2 e2 => ?_)
      have z2 := e2.size
      refine O.nil ?_
      refine hK10 _ _ ?_
      refine C.cond rfl (fun c16 => ?_) (fun c16 => ?_)
      ·
        simp only [Int.toNat_natCast] at c16
        refine C.seqK fun K11 hK11 => ?_
        refine C.region ?_
        refine O.mv ?_
        refine O.asg ?_
        refine O.nil ?_
        refine hK11 _ _ ?_
        refine C.ret ?_
        refine Outs.one rfl s8_1 ?_
        first
        | exact ⟨congrArg (Value.int .i64) (Cn.idx_yes hk2 c16 hI).symm, (Ext.trans e_1 e2)⟩
        | exact ⟨congrArg (Value.int .i64) (Cn.idx_no fun i hi => hI i hi (by omega)).symm, (Ext.trans e_1 e2)⟩
      ·
        simp only [Int.toNat_natCast] at c16
        refine C.skip ?_
        refine hK8 _ _ ?_
        refine hK7 _ _ ?_
        refine C.region ?_
        refine O.addI s8_1 rfl (by unfold InI; omega) ?_
        refine O.mv ?_
        refine O.nil ?_
        refine ⟨k + 1, ⟨rfl, s0_1, s1_1, s7_1, (Ext.trans e_1 e2), ?_⟩, by first | omega | (simp only []; omega)⟩
        refine ⟨by omega, fun i hi hik => ?_⟩
        rcases Nat.lt_or_eq_of_le (Nat.le_of_lt_succ hik) with h | rfl
        · exact hI i hi h
        · exact c16
    ·
      refine C.exit ?_
      refine hK4 _ _ ?_
      refine hK2 _ _ ?_
      refine C.seqK fun K12 hK12 => ?_
      refine C.region ?_
      refine O.asg ?_
      refine O.nil ?_
      refine hK12 _ _ ?_
      refine C.ret ?_
      refine Outs.one rfl rfl ?_
      first
      | exact ⟨congrArg (Value.int .i64) (Cn.idx_yes hk2 c16 hI).symm, e_1⟩
      | exact ⟨congrArg (Value.int .i64) (Cn.idx_no fun i hi => hI i hi (by omega)).symm, e_1⟩

theorem containsR_spec (v0 vf : Value) (l : List Ds.Rule) (F M : Nat → Prop) (p : Ds.Rule → Bool) (w : World) (hl : Sl Ds.ruleF.enc w F v0 l) (hp : Pred Tryz.prog M w vf Ds.rv p) :
    Ret Tryz.prog 53 #[v0, vf] w (fun v w' => v = .bool (l.any p) ∧ Le w w') := by
  refine enter (args := [v0, vf]) (n := 9) Tryz.func53 rfl rfl (Nat.le_of_ble_eq_true rfl) ?_
  refine C.seqK fun K1 hK1 => ?_
  refine C.region ?_
  refine O.asg ?_
  refine O.nil ?_
  refine hK1 _ _ ?_
  refine C.seqK fun K2 hK2 => ?_
  refine C.region ?_
  refine O.mv ?_
  refine O.mv ?_
  refine O.call Tryz.call69 (args2 rfl rfl) (indexR_spec _ _ _ _ _ _ _ hl hp) ?_
  rintro v_7 w1 ⟨rfl, e1⟩
  have z1 := e1.size
  refine O.geqI rfl rfl ?_
  refine O.asg ?_
  refine O.nil ?_
  refine hK2 _ _ ?_
  refine C.ret ?_
  refine Outs.one rfl rfl ?_
  exact ⟨congrArg Value.bool (Cn.idx_any l), e1⟩

theorem check_spec (c q : Int) (v2 : Value) (l : List Ds.Rule) (F : Nat → Prop) (w : World) (hl : Sl Ds.ruleF.enc w F v2 l) (mx : Mx w) :
    Ret Tryz.prog 41 #[.int .i64 (c), .int .i64 (q), v2] w (fun v w' => v = .int .i64 (Ds.errOf c q l) ∧ Le w w') := by
  have hle := hl.le
  refine enter (args := [.int .i64 (c), .int .i64 (q), v2]) (n := 20) Tryz.func41 rfl rfl (Nat.le_of_ble_eq_true rfl) ?_
  refine C.seqK fun K1 hK1 => ?_
  refine C.region ?_
  refine O.asg ?_
  refine O.nil ?_
  refine hK1 _ _ ?_
  refine C.seqK fun K2 hK2 => ?_
  refine C.block fun K3 hK3 => ?_
  refine C.seqK fun K4 hK4 => ?_
  refine C.region ?_
  refine O.mv ?_
  refine O.len Tryz.underlying32 rfl hl ?_
  refine O.gtrI rfl rfl ?_
  refine O.asg ?_
  refine O.nil ?_
  refine hK4 _ _ ?_
  refine C.condD rfl (fun c7 => ?_) (fun c7 => ?_)
  ·
    refine C.seqK fun K5 hK5 => ?_
    refine C.region ?_
    refine O.asg ?_
    refine O.nil ?_
    refine hK5 _ _ ?_
    refine C.ret ?_
    refine Outs.one rfl rfl ?_
    refine ⟨congrArg (Value.int .i64) ?_, (Le.refl _)⟩
    unfold Ds.errOf
    first
    | (rw [if_pos (by omega)]; done)
    | (rw [if_neg (by omega), c16, Bool.true_or]; rfl)
    | (rw [if_neg (by omega), c16, c11]; rfl)
  ·
    refine C.seqK fun K6 hK6 => ?_
    refine C.region ?_
    refine O.mv ?_
    refine O.mv ?_
    refine O.call Tryz.call39 (args2 rfl rfl) (priced_spec _ _ _) ?_
    rintro v_14 w1 ⟨rfl, e1⟩
    have z1 := e1.size
    refine O.not rfl ?_
    refine O.mv ?_
    refine O.split (x := .tmp 16) rfl (fun c16 => ?_) (fun c16 => ?_)
    ·
      refine O.no rfl (noB (isT' rfl c16) rfl) ?_
      refine O.no rfl (noB (isT' rfl c16) rfl) ?_
      refine O.pickT (isT' rfl c16) ?_
      refine O.asg ?_
      refine O.nil ?_
      refine hK6 _ _ ?_
      refine C.condT rfl ?_
      refine C.seqK fun K7 hK7 => ?_
      refine C.region ?_
      refine O.asg ?_
      refine O.nil ?_
      refine hK7 _ _ ?_
      refine C.ret ?_
      refine Outs.one rfl rfl ?_
      refine ⟨congrArg (Value.int .i64) ?_, e1⟩
      unfold Ds.errOf
      first
      | (rw [if_pos (by omega)]; done)
      | (rw [if_neg (by omega), c16, Bool.true_or]; rfl)
      | (rw [if_neg (by omega), c16, c11]; rfl)
    ·
      refine O.yes rfl (isF' rfl c16) ?_
      refine O.mv ?_
      refine O.yes rfl (isF' rfl c16) ?_
      refine O.call Tryz.call53 (args2 rfl rfl) (containsR_spec _ _ _ _ (fun _ => False) Ds.badR _ (hl.keep e1) (pred_rbad _ (mx.keep e1))) ?_
      rintro v_18 w2 ⟨rfl, e2⟩
      have z2 := e2.size
      refine O.pickF (isF' rfl c16) ?_
      refine O.asg ?_
      refine O.nil ?_
      refine hK6 _ _ ?_
      refine C.cond rfl (fun c11 => ?_) (fun c11 => ?_)
      ·
        refine C.seqK fun K8 hK8 => ?_
        refine C.region ?_
        refine O.asg ?_
        refine O.nil ?_
        refine hK8 _ _ ?_
        refine C.ret ?_
        refine Outs.one rfl rfl ?_
        refine ⟨congrArg (Value.int .i64) ?_, (Ext.trans e1 e2)⟩
        unfold Ds.errOf
        first
        | (rw [if_pos (by omega)]; done)
        | (rw [if_neg (by omega), c16, Bool.true_or]; rfl)
        | (rw [if_neg (by omega), c16, c11]; rfl)
      ·
        refine C.skip ?_
        refine hK3 _ _ ?_
        refine hK2 _ _ ?_
        refine C.seqK fun K9 hK9 => ?_
        refine C.region ?_
        refine O.asg ?_
        refine O.nil ?_
        refine hK9 _ _ ?_
        refine C.ret ?_
        refine Outs.one rfl rfl ?_
        refine ⟨congrArg (Value.int .i64) ?_, (Ext.trans e1 e2)⟩
        unfold Ds.errOf
        first
        | (rw [if_pos (by omega)]; done)
        | (rw [if_neg (by omega), c16, Bool.true_or]; rfl)
        | (rw [if_neg (by omega), c16, c11]; rfl)

theorem bad_spec (c q : Int) (v2 : Value) (l : List Ds.Rule) (F : Nat → Prop) (w : World) (hl : Sl Ds.ruleF.enc w F v2 l) (mx : Mx w) :
    Ret Tryz.prog 15 #[.int .i64 (c), .int .i64 (q), v2] w (fun v w' => v = .int .i64 (Ds.errOf c q l) ∧ Le w w') := by
  have hle := hl.le
  refine enter (args := [.int .i64 (c), .int .i64 (q), v2]) (n := 27) Tryz.func15 rfl rfl (Nat.le_of_ble_eq_true rfl) ?_
  refine C.seqK fun K1 hK1 => ?_
  refine C.region ?_
  refine O.asg ?_
  refine O.nil ?_
  refine hK1 _ _ ?_
  refine C.seqK fun K2 hK2 => ?_
  refine C.seqK fun K3 hK3 => ?_
  refine C.region ?_
  refine O.mv ?_
  refine O.len Tryz.underlying32 rfl hl ?_
  refine O.gtrI rfl rfl ?_
  refine O.nil ?_
  refine hK3 _ _ ?_
  refine C.condD rfl (fun c10 => ?_) (fun c10 => ?_)
  ·
    refine C.seqK fun K4 hK4 => ?_
    refine C.region ?_
    refine O.asg ?_
    refine O.nil ?_
    refine hK4 _ _ ?_
    refine C.ret ?_
    refine Outs.one rfl rfl ?_
    refine ⟨congrArg (Value.int .i64) ?_, (Le.refl _)⟩
    unfold Ds.errOf
    first
    | (rw [if_pos (by omega)]; done)
    | (have hb : l.any Ds.badR = true := List.any_eq_true.2 ⟨_, List.getElem_mem (show (k : Int).toNat < l.length by omega), c22⟩
       rw [if_neg (by omega), hb, Bool.or_true]; rfl)
    | (rw [if_neg (by omega), hno]; simp [c26])
  ·
    refine C.skip ?_
    refine hK2 _ _ ?_
    refine C.seqK fun K5 hK5 => ?_
    refine C.seqK fun K6 hK6 => ?_
    refine C.region ?_
    refine O.asg ?_
    refine O.nil ?_
    refine hK6 _ _ ?_
    refine C.block fun K7 hK7 => ?_
    refine C.loop0 (σ := Nat) (fun f0 w0 k f wz => f 7 = .int .i64 (k) ∧ f 0 = f0 0 ∧ f 1 = f0 1 ∧ f 2 = f0 2 ∧ Le w wz ∧ k ≤ l.length ∧ ∀ i, ∀ h : i < l.length, i < k → Ds.okR l[i] = true) (fun k => l.length - k) 0 ?_ ?_
    ·
      refine ⟨rfl, rfl, rfl, rfl, (Le.refl _), ?_⟩
      exact ⟨Nat.zero_le _, fun i h k => absurd k (Nat.not_lt_zero _)⟩
    ·
      rintro k f_1 w1 ⟨s7_1, s0_1, s1_1, s2_1, e_1, ⟨hk, hI⟩⟩
      have z_1 := e_1.size
      refine C.seqK fun K8 hK8 => ?_
      refine C.seqK fun K9 hK9 => ?_
      refine C.region ?_
      refine O.mv ?_
      refine O.mv ?_
      refine O.len Tryz.underlying32 s2_1 (hl.keep e_1) ?_
      refine O.lssI s7_1 rfl ?_
      refine O.nil ?_
      refine hK9 _ _ ?_
      refine C.condD rfl (fun c14 => ?_) (fun c14 => ?_)
      ·
        have hk2 : k < l.length := by omega
        refine C.skip ?_
        refine hK8 _ _ ?_
        refine C.seqK fun K10 hK10 => ?_
        refine C.block fun K11 hK11 => ?_
        refine C.seqK fun K12 hK12 => ?_
        refine C.region ?_
        refine O.mv ?_
        refine O.mv ?_
        refine O.idx Tryz.underlying32 Tryz.sizeOf24 rfl s2_1 (hl.keep e_1) s7_1 (by omega) (fun a19 h19 => ?_)
        refine O.loadG (G := Ds.ruleF) Tryz.isAgg24 Tryz.sizeOf24 rfl h19 ?_
        refine O.call Tryz.call9 (args1 rfl) (lvalid_spec (l[(k : Int).toNat]'(by omega)) _ (mx.keep e_1)) ?_
        rintro v_21 w2 ⟨rfl, e2⟩
        have z2 := e2.size
        refine O.not rfl ?_
        refine O.nil ?_
        refine hK12 _ _ ?_
        refine C.cond rfl (fun c22 => ?_) (fun c22 => ?_)
        ·
          refine C.seqK fun K13 hK13 => ?_
          refine C.region ?_
          refine O.asg ?_
          refine O.nil ?_
          refine hK13 _ _ ?_
          refine C.ret ?_
          refine Outs.one rfl rfl ?_
          refine ⟨congrArg (Value.int .i64) ?_, (Ext.trans e_1 e2)⟩
          unfold Ds.errOf
          first
          | (rw [if_pos (by omega)]; done)
          | (have hb : l.any Ds.badR = true := List.any_eq_true.2 ⟨_, List.getElem_mem (show (k : Int).toNat < l.length by omega), c22⟩
             rw [if_neg (by omega), hb, Bool.or_true]; rfl)
          | (rw [if_neg (by omega), hno]; simp [c26])
        ·
          have hkk : Ds.okR (l[(k : Int).toNat]'(by omega)) = true := by simpa using c22
          refine C.skip ?_
          refine hK11 _ _ ?_
          refine hK10 _ _ ?_
          refine C.region ?_
          refine O.mv ?_
          refine O.addI s7_1 rfl (by unfold InI; omega) ?_
          refine O.asg ?_
          refine O.nil ?_
          refine ⟨k + 1, ⟨rfl, s0_1, s1_1, s2_1, (Ext.trans e_1 e2), ?_⟩, by first | omega | (simp only []; omega)⟩
          refine ⟨by omega, fun i hi hik => ?_⟩
          rcases Nat.lt_or_eq_of_le (Nat.le_of_lt_succ hik) with h | rfl
          · exact hI i hi h
          · exact hkk
      ·
        have hno : l.any Ds.badR = false := by
          cases hq9 : l.any Ds.badR
          · rfl
          · obtain ⟨r, hr, hb⟩ := List.any_eq_true.1 hq9
            obtain ⟨i, hi, rfl⟩ := List.getElem_of_mem hr
            have := hI i hi (by omega)
            unfold Ds.badR at hb
            rw [this] at hb
            cases hb
        refine C.exit ?_
        refine hK7 _ _ ?_
        refine hK5 _ _ ?_
        refine C.seqK fun K14 hK14 => ?_
        refine C.seqK fun K15 hK15 => ?_
        refine C.region ?_
        refine O.mv ?_
        refine O.mv ?_
        refine O.call Tryz.call10 (args2 s0_1 s1_1) (lpriced_spec _ _ _) ?_
        rintro v_25 w3 ⟨rfl, e3⟩
        have z3 := e3.size
        refine O.not rfl ?_
        refine O.nil ?_
        refine hK15 _ _ ?_
        refine C.cond rfl (fun c26 => ?_) (fun c26 => ?_)
        ·
          refine C.seqK fun K16 hK16 => ?_
          refine C.region ?_
          refine O.asg ?_
          refine O.nil ?_
          refine hK16 _ _ ?_
          refine C.ret ?_
          refine Outs.one rfl rfl ?_
          refine ⟨congrArg (Value.int .i64) ?_, (Ext.trans e_1 e3)⟩
          unfold Ds.errOf
          first
          | (rw [if_pos (by omega)]; done)
          | (have hb : l.any Ds.badR = true := List.any_eq_true.2 ⟨_, List.getElem_mem (show (k : Int).toNat < l.length by omega), c22⟩
             rw [if_neg (by omega), hb, Bool.or_true]; rfl)
          | (rw [if_neg (by omega), hno]; simp [c26])
        ·
          refine C.skip ?_
          refine hK14 _ _ ?_
          refine C.seqK fun K17 hK17 => ?_
          refine C.region ?_
          refine O.asg ?_
          refine O.nil ?_
          refine hK17 _ _ ?_
          refine C.ret ?_
          refine Outs.one rfl rfl ?_
          refine ⟨congrArg (Value.int .i64) ?_, (Ext.trans e_1 e3)⟩
          unfold Ds.errOf
          first
          | (rw [if_pos (by omega)]; done)
          | (have hb : l.any Ds.badR = true := List.any_eq_true.2 ⟨_, List.getElem_mem (show (k : Int).toNat < l.length by omega), c22⟩
             rw [if_neg (by omega), hb, Bool.or_true]; rfl)
          | (rw [if_neg (by omega), hno]; simp [c26])

theorem dprice_spec (c q : Int) (f : BitVec 64) (w : World) :
    Ret Tryz.prog 24 #[.int .i64 (c), .int .i64 (q), fl (f)] w (fun v w' => v = .tuple #[.int .i64 (Ds.priceE c q f), .int .i64 (Ds.priceN c q f)] ∧ Le w w') := by
  refine enter (args := [.int .i64 (c), .int .i64 (q), fl (f)]) (n := 21) Tryz.func24 rfl rfl (Nat.le_of_ble_eq_true rfl) ?_
  refine C.seqK fun K1 hK1 => ?_
  refine C.region ?_
  refine O.asg ?_
  refine O.asg ?_
  refine O.nil ?_
  refine hK1 _ _ ?_
  refine C.seqK fun K2 hK2 => ?_
  refine C.seqK fun K3 hK3 => ?_
  refine C.region ?_
  refine O.mv ?_
  refine O.mv ?_
  refine O.call Tryz.call39 (args2 rfl rfl) (priced_spec _ _ _) ?_
  rintro v_10 w1 ⟨rfl, e1⟩
  have z1 := e1.size
  refine O.not rfl ?_
  refine O.mv ?_
  refine O.split (x := .tmp 12) rfl (fun c12 => ?_) (fun c12 => ?_)
  ·
    have hno : (Ds.okP c q && decide (Rnd.Unit (Fl.canon f))) = false := by rw [show Ds.okP c q = false by simpa using c12]; rfl
    refine O.no rfl (noB (isT' rfl c12) rfl) ?_
    refine O.no rfl (noB (isT' rfl c12) rfl) ?_
    refine O.no rfl (noB (isT' rfl c12) rfl) ?_
    refine O.pickT (isT' rfl c12) ?_
    refine O.nil ?_
    refine hK3 _ _ ?_
    refine C.condT rfl ?_
    refine C.seqK fun K4 hK4 => ?_
    refine C.region ?_
    refine O.asg ?_
    refine O.asg ?_
    refine O.nil ?_
    refine hK4 _ _ ?_
    refine C.ret ?_
    refine Outs.two rfl rfl rfl ?_
    first
    | exact ⟨tup2 ep1.symm ep2.symm, e1⟩
    | exact ⟨tup2 (if_neg (by rw [hno]; decide)).symm (if_neg (by rw [hno]; decide)).symm, e1⟩
  ·
    have hok : Ds.okP c q = true := by simpa using c12
    refine O.yes rfl (isF' rfl c12) ?_
    refine O.mv ?_
    refine O.yes rfl (isF' rfl c12) ?_
    refine O.call Tryz.call32 (args1 rfl) (part_spec _ _) ?_
    rintro v_14 w2 ⟨rfl, e2⟩
    have z2 := e2.size
    refine O.yes rfl (isF' rfl c12) ?_
    refine O.not rfl ?_
    refine O.pickF (isF' rfl c12) ?_
    refine O.nil ?_
    refine hK3 _ _ ?_
    refine C.cond rfl (fun c16 => ?_) (fun c16 => ?_)
    ·
      (try have hno : (Ds.okP c q && decide (Rnd.Unit (Fl.canon f))) = false := by rw [show decide (Rnd.Unit (Fl.canon f)) = false by simpa using c16, Bool.and_false])
      refine C.seqK fun K5 hK5 => ?_
      refine C.region ?_
      refine O.asg ?_
      refine O.asg ?_
      refine O.nil ?_
      refine hK5 _ _ ?_
      refine C.ret ?_
      refine Outs.two rfl rfl rfl ?_
      first
      | exact ⟨tup2 ep1.symm ep2.symm, (Ext.trans e1 e2)⟩
      | exact ⟨tup2 (if_neg (by rw [hno]; decide)).symm (if_neg (by rw [hno]; decide)).symm, (Ext.trans e1 e2)⟩
    ·
      have hu : Rnd.Unit (Fl.canon f) := by simpa using c16
      have hyes : (Ds.okP c q && decide (Rnd.Unit (Fl.canon f))) = true := by rw [hok, decide_eq_true hu]; rfl
      have ep1 : Ds.priceE c q f = (Rnd.price (c.toNat * q.toNat) (Fl.canon f) : Nat) := if_pos hyes
      have ep2 : Ds.priceN c q f = 0 := if_pos hyes
      obtain ⟨a, b, rfl, rfl, hc, hq, hab⟩ := Ds.prod_lt hok
      refine C.skip ?_
      refine hK2 _ _ ?_
      refine C.seqK fun K6 hK6 => ?_
      refine C.region ?_
      refine O.mv ?_
      refine O.mv ?_
      refine O.mv ?_
      refine O.call Tryz.call40 (args3 rfl rfl rfl) (price_spec a b f _ hc hq hu) ?_
      rintro v_20 w3 ⟨rfl, e3⟩
      have z3 := e3.size
      refine O.asg ?_
      refine O.asg ?_
      refine O.nil ?_
      refine hK6 _ _ ?_
      refine C.ret ?_
      refine Outs.two rfl rfl rfl ?_
      first
      | exact ⟨tup2 ep1.symm ep2.symm, (Ext.trans (Ext.trans e1 e2) e3)⟩
      | exact ⟨tup2 (if_neg (by rw [hno]; decide)).symm (if_neg (by rw [hno]; decide)).symm, (Ext.trans (Ext.trans e1 e2) e3)⟩

set_option maxHeartbeats 4000000 in
theorem dbest_spec (c q : Int) (v2 : Value) (l : List Ds.Rule) (F : Nat → Prop) (w : World) (hl : Sl Ds.ruleF.enc w F v2 l) (mx : Mx w) :
    Ret Tryz.prog 27 #[.int .i64 (c), .int .i64 (q), v2] w (fun v w' => v = .tuple #[.int .i64 (Ds.bestR c q l), .int .i64 (Ds.bestP c q l), .int .i64 (Ds.errOf c q l)] ∧ Le w w') := by
  have hle := hl.le
  obtain ⟨ie3, ti3, ts3, tb3, tz3⟩ := inf3
  refine enter (args := [.int .i64 (c), .int .i64 (q), v2]) (n := 64) Tryz.func27 rfl rfl (Nat.le_of_ble_eq_true rfl) ?_
  refine C.seqK fun K1 hK1 => ?_
  refine C.region ?_
  refine O.asg ?_
  refine O.asg ?_
  refine O.asg ?_
  refine O.nil ?_
  refine hK1 _ _ ?_
  refine C.seqK fun K2 hK2 => ?_
  refine C.seqK fun K3 hK3 => ?_
  refine C.region ?_
  refine O.mv ?_
  refine O.mv ?_
  refine O.mv ?_
  refine O.call Tryz.call41 (args3 rfl rfl rfl) (check_spec c q v2 l F _ hl mx) ?_
  rintro v_16 w1 ⟨rfl, e1⟩
  have z1 := e1.size
  refine O.asg ?_
  refine O.nil ?_
  refine hK3 _ _ ?_
  refine C.seqK fun K4 hK4 => ?_
  refine C.region ?_
  refine O.mv ?_
  refine O.neqI rfl rfl ?_
  refine O.nil ?_
  refine hK4 _ _ ?_
  refine C.condD rfl (fun c18 => ?_) (fun c18 => ?_)
  ·
    refine C.seqK fun K5 hK5 => ?_
    refine C.region ?_
    refine O.mv ?_
    refine O.asg ?_
    refine O.asg ?_
    refine O.asg ?_
    refine O.nil ?_
    refine hK5 _ _ ?_
    refine C.ret ?_
    refine Outs.three rfl rfl rfl rfl ?_
    first
    | exact ⟨tup3 hbR.symm hbP.symm he.symm, e1⟩
    | exact ⟨tup3 (if_neg c18).symm (if_neg c18).symm rfl, e1⟩
  ·
    have he : Ds.errOf c q l = 0 := Decidable.of_not_not c18
    obtain ⟨hlen, hok, hbad⟩ := Ds.err_ok he
    have hbR : Ds.bestR c q l = Ds.bst (c.toNat * q.toNat) q l l.length := if_pos he
    have hbP : Ds.bestP c q l = (Ds.least (c.toNat * q.toNat) q l l.length : Nat) := if_pos he
    have htP : Ds.togP c q l = (Rnd.price (c.toNat * q.toNat) (Ds.whole q l) : Nat) := if_pos he
    have htF : Ds.togF c q l = Ds.whole q l := if_pos he
    obtain ⟨a, b, hca, hqb, hc, hq, hab⟩ := Ds.prod_lt hok
    clear hok
    subst hca hqb
    rw [Int.toNat_natCast, Int.toNat_natCast] at hbR hbP htP
    refine C.skip ?_
    refine hK2 _ _ ?_
    refine C.seqK fun K6 hK6 => ?_
    refine C.region ?_
    refine O.mv ?_
    refine O.mv ?_
    refine O.mulI rfl rfl (by have hz : ((a * b : Nat) : Int) = (a : Int) * (b : Int) := Int.natCast_mul _ _; unfold InI; omega) ?_
    refine O.cast (v' := .int .i64 ((a * b : Nat) : Int)) (congrArg (Value.int .i64) (Int.natCast_mul _ _).symm) ?_
    refine O.asg ?_
    refine O.asg ?_
    refine O.nil ?_
    refine hK6 _ _ ?_
    refine C.seqK fun K7 hK7 => ?_
    refine C.seqK fun K8 hK8 => ?_
    refine C.region ?_
    refine O.mv ?_
    refine O.len Tryz.underlying32 rfl (hl.keep e1) ?_
    refine O.mv ?_
    refine O.nil ?_
    refine hK8 _ _ ?_
    refine C.block fun K9 hK9 => ?_
    refine C.loop0 (σ := Nat) (fun f0 w0 k f wz => f 25 = .int .i64 ((k : Int)) ∧ f 6 = .int .i64 (Ds.bst (a * b) (b : Int) l k) ∧ f 7 = .int .i64 ((Ds.least (a * b) (b : Int) l k : Nat)) ∧ f 0 = f0 0 ∧ f 1 = f0 1 ∧ f 2 = f0 2 ∧ f 8 = f0 8 ∧ f 23 = f0 23 ∧ f 24 = f0 24 ∧ Le w wz ∧ k ≤ l.length) (fun k => l.length - k) 0 ?_ ?_
    ·
      refine ⟨rfl, (Eq.trans rfl rfl), (Eq.trans rfl (congrArg (Value.int .i64) (by rw [Ds.least_zero]))), rfl, rfl, rfl, rfl, rfl, rfl, e1, ?_⟩
      exact Nat.zero_le _
    ·
      rintro k f_1 w2 ⟨s25_1, s6_1, s7_1, s0_1, s1_1, s2_1, s8_1, s23_1, s24_1, e_1, hk⟩
      have z_1 := e_1.size
      refine C.seqK fun K10 hK10 => ?_
      refine C.region ?_
      refine O.lssI s25_1 s24_1 ?_
      refine O.nil ?_
      refine hK10 _ _ ?_
      refine C.seqK fun K11 hK11 => ?_
      refine C.condD rfl (fun c26 => ?_) (fun c26 => ?_)
      ·
        have hk2 : k < l.length := by omega
        have hbr := Ds.bst_range (a * b) (b : Int) l k
        have hat := Ds.at_eq hk2
        have hu : Rnd.Unit (Fl.canon (l[(k : Int).toNat]'(by omega)).fac) := Ds.fac_unit hbad (List.getElem_mem _)
        refine C.skip ?_
        refine hK11 _ _ ?_
        refine C.seqK fun K12 hK12 => ?_
        refine C.block fun K13 hK13 => ?_
        refine C.seqK fun K14 hK14 => ?_
        refine C.region ?_
        refine O.mv ?_
        refine O.idx Tryz.underlying32 Tryz.sizeOf24 rfl s23_1 (hl.keep e_1) s25_1 (by omega) (fun a28 h28 => ?_)
        refine O.loadG (G := Ds.ruleF) Tryz.isAgg24 Tryz.sizeOf24 rfl h28 ?_
        refine O.alloc Tryz.zeroValue24 (fun b11 w3 hb11 hz11 e3 => ?_)
        have z3 := e3.size
        have h11 := hz11.own
        have hl11 := h11.lt
        refine O.asg ?_
        refine O.storeA (vs := [str (l[(k : Int).toNat]'(by omega)).name, .int .i64 (l[(k : Int).toNat]'(by omega)).lo, fl (l[(k : Int).toNat]'(by omega)).fac]) Tryz.sizeOf24 rfl rfl rfl (by simp [Value.oneCell', str, fl]) h11 (Nat.le_of_ble_eq_true rfl) (fun w4 hs4 e4 z4 => ?_)
        refine O.nil ?_
        refine hK14 _ _ ?_
        refine C.seqK fun K15 hK15 => ?_
        refine C.seqK fun K16 hK16 => ?_
        refine C.region ?_
        refine O.fieldAd Tryz.underlying24 rfl Tryz.sizeOf3 (by decide) rfl ?_
        refine O.loadO Tryz.isAgg3 rfl hs4 rfl ?_
        refine O.mv ?_
        refine O.gtrI rfl s1_1 ?_
        refine O.nil ?_
        refine hK16 _ _ ?_
        refine C.condD rfl (fun c33 => ?_) (fun c33 => ?_)
        ·
          obtain ⟨hb9, hl9⟩ := Ds.bst_skip (n := a * b) (q := (b : Int)) (l := l) (k := k) (by rw [hat]; exact c33)
          refine C.exit ?_
          refine hK13 _ _ ?_
          refine hK12 _ _ ?_
          refine C.region ?_
          refine O.addI s25_1 rfl (by unfold InI; omega) ?_
          refine O.mv ?_
          refine O.nil ?_
          refine ⟨k + 1, ⟨rfl, (Eq.trans s6_1 (congrArg (Value.int .i64) hb9.symm)), (Eq.trans s7_1 (congrArg (Value.int .i64) (by rw [hl9]))), s0_1, s1_1, s2_1, s8_1, s23_1, s24_1, (Ext.new (Ext.trans e_1 e3) e4 (by rintro i hi rfl; omega)), ?_⟩, by first | omega | (simp only []; omega)⟩
          omega
        ·
          have hsk : ¬ (b : Int) < (Ds.at' l k).lo := by rw [hat]; exact c33
          refine C.skip ?_
          refine hK15 _ _ ?_
          refine C.seqK fun K17 hK17 => ?_
          refine C.region ?_
          refine O.mv ?_
          refine O.mv ?_
          refine O.fieldAd Tryz.underlying24 rfl Tryz.sizeOf22 (by decide) rfl ?_
          refine O.loadO Tryz.isAgg22 rfl hs4 rfl ?_
          refine O.call Tryz.call40 (args3 s0_1 s1_1 rfl) (price_spec a b (l[(k : Int).toNat]'(by omega)).fac _ hc hq hu) ?_
          rintro v_38 w5 ⟨rfl, e5⟩
          have z5 := e5.size
          refine O.asg ?_
          refine O.nil ?_
          refine hK17 _ _ ?_
          refine C.seqK fun K18 hK18 => ?_
          refine C.join (fun f w f' w' => Le w w' ∧ f' 0 = f 0 ∧ f' 1 = f 1 ∧ f' 2 = f 2 ∧ f' 6 = f 6 ∧ f' 7 = f 7 ∧ f' 8 = f 8 ∧ f' 10 = f 10 ∧ f' 12 = f 12 ∧ f' 23 = f 23 ∧ f' 24 = f 24 ∧ f' 25 = f 25 ∧ f' 58 = .bool (decide (Ds.bst (a * b) (b : Int) l k < 0) || Ds.better (a * b) (Ds.at' l k).fac (Ds.at' l (Ds.bst (a * b) (b : Int) l k)).fac)) ?_ ?_
          ·
            refine C.draw (by kernel_rfl) fun w6 e6 => ?_
            have z6 := e6.size
            refine D.take (i := 0) rfl rfl rfl rfl (by kernel_rfl) (Le.refl _) ⟨pure _, rfl⟩ (fun w_ hw_ N_ hN => (O.mv (O.nil hN))) ?_
            refine D.take (i := 1) rfl rfl rfl rfl (by kernel_rfl) (Le.refl _) ⟨_, rfl⟩ (fun w_ hw_ N_ hN => (O.lssI s6_1 rfl (O.nil hN))) ?_
            refine D.take (i := 2) rfl rfl rfl rfl (by kernel_rfl) (Le.refl _) ⟨pure _, rfl⟩ (fun w_ hw_ N_ hN => (O.mv (O.nil hN))) ?_
            refine D.splitD (x := .tmp 41) rfl (fun c41 => ?_) (fun c41 => ?_)
            ·
              refine D.takeNo (i := 3) rfl rfl (by kernel_rfl) (Le.refl _) rfl (noB (isT rfl c41) rfl) ?_
              refine D.takeNo (i := 4) rfl rfl (by kernel_rfl) (Le.refl _) rfl (noB (isT rfl c41) rfl) ?_
              refine D.takeNo (i := 5) rfl rfl (by kernel_rfl) (Le.refl _) rfl (noB (isT rfl c41) rfl) ?_
              refine D.takeNo (i := 6) rfl rfl (by kernel_rfl) (Le.refl _) rfl (noB (isT rfl c41) rfl) ?_
              refine D.takeNo (i := 7) rfl rfl (by kernel_rfl) (Le.refl _) rfl (noB (isT rfl c41) rfl) ?_
              refine D.takeNo (i := 8) rfl rfl (by kernel_rfl) (Le.refl _) rfl (noB (isT rfl c41) rfl) ?_
              refine D.takeNo (i := 9) rfl rfl (by kernel_rfl) (Le.refl _) rfl (noB (isT rfl c41) rfl) ?_
              refine D.takeNo (i := 10) rfl rfl (by kernel_rfl) (Le.refl _) rfl (noB (isT rfl c41) rfl) ?_
              refine D.takeNo (i := 11) rfl rfl (by kernel_rfl) (Le.refl _) rfl (noB (isT rfl c41) rfl) ?_
              refine D.takeNo (i := 12) rfl rfl (by kernel_rfl) (Le.refl _) rfl (noB (isT rfl c41) rfl) ?_
              refine D.takeNo (i := 13) rfl rfl (by kernel_rfl) (Le.refl _) rfl (noB (isT rfl c41) rfl) ?_
              refine D.takeNo (i := 14) rfl rfl (by kernel_rfl) (Le.refl _) rfl (noB (isT rfl c41) rfl) ?_
              refine D.takeNo (i := 15) rfl rfl (by kernel_rfl) (Le.refl _) rfl (noB (isT rfl c41) rfl) ?_
              refine D.takeNo (i := 16) rfl rfl (by kernel_rfl) (Le.refl _) rfl (noB (isT rfl c41) rfl) ?_
              refine D.takeNo (i := 17) rfl rfl (by kernel_rfl) (Le.refl _) rfl (noB (isT rfl c41) rfl) ?_
              refine D.takeNo (i := 18) rfl rfl (by kernel_rfl) (Le.refl _) rfl (noB (isT rfl c41) rfl) ?_
              refine D.take (i := 19) rfl rfl rfl rfl (by kernel_rfl) (Le.refl _) pick_form (fun w_ hw_ N_ hN => (O.pickT (isT rfl c41) (O.nil hN))) ?_
              refine D.done (by kernel_rfl) ?_
              exact ⟨e6, rfl, rfl, rfl, rfl, rfl, rfl, rfl, rfl, rfl, rfl, rfl, (Eq.trans rfl (congrArg Value.bool (by first | (rw [decide_eq_true c41]; rfl) | (rw [decide_eq_false c41, Bool.false_or]; exact hbo))))⟩
            ·
              have hlb : (Ds.bst (a * b) (b : Int) l k).toNat < l.length := by omega
              have hls : Ds.least (a * b) (b : Int) l k = Rnd.price (a * b) (Fl.canon (Ds.at' l (Ds.bst (a * b) (b : Int) l k)).fac) := if_neg c41
              have hbo : decide ((if Dt.icmp (Rnd.price (a * b) (Fl.canon (l[(k : Int).toNat]'(by omega)).fac) : Nat) (Ds.least (a * b) (b : Int) l k : Nat) ≠ 0 then Dt.icmp (Rnd.price (a * b) (Fl.canon (l[(k : Int).toNat]'(by omega)).fac) : Nat) (Ds.least (a * b) (b : Int) l k : Nat) else Fl.cmp (Fl.canon (l[(k : Int).toNat]'(by omega)).fac) (Fl.canon (Ds.at' l (Ds.bst (a * b) (b : Int) l k)).fac)) < 0) = Ds.better (a * b) (Ds.at' l k).fac (Ds.at' l (Ds.bst (a * b) (b : Int) l k)).fac := by
                rw [hls, hat]
                exact Ds.better_or hu (by rw [Ds.at_get hlb]; exact Ds.fac_unit hbad (List.getElem_mem _))
              refine D.takeYes (i := 3) rfl rfl rfl (by kernel_rfl) rfl (isF rfl c41) (Le.refl _) ⟨pure _, rfl⟩ (fun w_ hw_ N_ hN => (O.mv (O.nil hN))) ?_
              refine D.takeYes (i := 4) rfl rfl rfl (by kernel_rfl) rfl (isF rfl c41) (Le.refl _) ⟨pure _, rfl⟩ (fun w_ hw_ N_ hN => (O.mv (O.nil hN))) ?_
              refine D.takeYes (i := 6) rfl rfl rfl (by kernel_rfl) rfl (isF rfl c41) (Le.refl _) ⟨_, rfl⟩ (fun w_ hw_ N_ hN => (O.fieldAd Tryz.underlying24 rfl Tryz.sizeOf22 (by decide) rfl (O.nil hN))) ?_
              refine D.takeYes (i := 7) rfl rfl rfl (by kernel_rfl) rfl (isF rfl c41) (Le.refl _) ⟨_, rfl⟩ (fun w_ hw_ N_ hN => (O.loadO Tryz.isAgg22 rfl (((hs4.keep e5).keep e6).keep hw_) rfl (O.nil hN))) ?_
              refine D.takeYes (i := 9) rfl rfl rfl (by kernel_rfl) rfl (isF rfl c41) (Le.refl _) ⟨pure _, rfl⟩ (fun w_ hw_ N_ hN => (O.mv (O.nil hN))) ?_
              refine D.takeYes (i := 10) rfl rfl rfl (by kernel_rfl) rfl (isF rfl c41) (Le.refl _) ⟨pure _, rfl⟩ (fun w_ hw_ N_ hN => (O.mv (O.nil hN))) ?_
              obtain ⟨a50, h50, hr50⟩ := Sl.at (i := Ds.bst (a * b) (b : Int) l k) (P := Tryz.prog) Tryz.underlying32 Tryz.sizeOf24 rfl (hl.keep (Ext.trans (Ext.trans (Ext.new (Ext.trans e_1 e3) e4 (by rintro i hi rfl; omega)) e5) e6)) (by omega)
              refine D.takeYes (i := 11) rfl rfl rfl (by kernel_rfl) rfl (isF rfl c41) (Le.refl _) ⟨_, rfl⟩ (fun w_ hw_ N_ hN => (O.idxR s2_1 s6_1 hr50 (O.nil hN))) ?_
              refine D.takeYes (i := 12) rfl rfl rfl (by kernel_rfl) rfl (isF rfl c41) (Le.refl _) ⟨_, rfl⟩ (fun w_ hw_ N_ hN => (O.fieldAt Tryz.underlying24 rfl Tryz.sizeOf22 (by decide) rfl (O.nil hN))) ?_
              refine D.takeYes (i := 13) rfl rfl rfl (by kernel_rfl) rfl (isF rfl c41) (Le.refl _) ⟨_, rfl⟩ (fun w_ hw_ N_ hN => (O.loadAtF (G := Ds.ruleF) Tryz.isAgg22 rfl rfl (h50.keep hw_) (O.nil hN))) ?_
              refine D.cast (v' := fl (Ds.at' l (Ds.bst (a * b) (b : Int) l k)).fac) (congrArg (fun r : Ds.Rule => fl r.fac) (Ds.at_get hlb).symm) ?_
              refine D.oneYes (i := 5) rfl rfl (isF rfl c41) (by kernel_rfl) ?_
              refine O.call Tryz.call43 (args2 rfl s7_1) (icmp_spec _ _ _) ?_
              rintro v_44 w7 ⟨rfl, hw_⟩
              replace hw_ := hw_.symm
              subst hw_
              refine O.nil ⟨(Le.refl _), ?_⟩
              refine D.oneYes (i := 8) rfl rfl (isF rfl c41) (by kernel_rfl) ?_
              refine O.call Tryz.call35 (args1 rfl) (canon_spec _ _) ?_
              rintro v_47 w7 ⟨rfl, hw_⟩
              replace hw_ := hw_.symm
              subst hw_
              refine O.nil ⟨(Le.refl _), ?_⟩
              refine D.oneYes (i := 14) rfl rfl (isF rfl c41) (by kernel_rfl) ?_
              refine O.call Tryz.call35 (args1 rfl) (canon_spec _ _) ?_
              rintro v_53 w7 ⟨rfl, hw_⟩
              replace hw_ := hw_.symm
              subst hw_
              refine O.nil ⟨(Le.refl _), ?_⟩
              refine D.oneYes (i := 15) rfl rfl (isF rfl c41) (by kernel_rfl) ?_
              refine O.call Tryz.call23 (args2 rfl rfl) (cmp_spec _ _ _) ?_
              rintro v_54 w7 ⟨rfl, hw_⟩
              replace hw_ := hw_.symm
              subst hw_
              refine O.nil ⟨(Le.refl _), ?_⟩
              refine D.oneYes (i := 16) rfl rfl (isF rfl c41) (by kernel_rfl) ?_
              refine O.litn [.int .i64 (Dt.icmp (Rnd.price (a * b) (Fl.canon (l[(k : Int).toNat]'(by omega)).fac) : Nat) (Ds.least (a * b) (b : Int) l k : Nat)), .int .i64 (Fl.cmp (Fl.canon (l[(k : Int).toNat]'(by omega)).fac) (Fl.canon (Ds.at' l (Ds.bst (a * b) (b : Int) l k)).fac))] Tryz.underlying43 ti3 ts3 tz3 rfl (by decide) (by decide) rfl (by simp [Value.oneCell']) (fun b55 w7 hb55 hz55 e7 => ?_)
              have z7 := e7.size
              have h55 := hz55.own
              have hl55 := h55.lt
              refine O.nil ⟨e7, ?_⟩
              have h1055 : Sl Dt.intF.enc w7 (fun k => k = b55) (.slice (some ⟨b55, 0, none⟩) 2 2) [Dt.icmp (Rnd.price (a * b) (Fl.canon (l[(k : Int).toNat]'(by omega)).fac) : Nat) (Ds.least (a * b) (b : Int) l k : Nat), Fl.cmp (Fl.canon (l[(k : Int).toNat]'(by omega)).fac) (Fl.canon (Ds.at' l (Ds.bst (a * b) (b : Int) l k)).fac)] := Sl.of_own (G := Dt.intF) h55 rfl (Nat.le_refl _) (by unfold maxLen; omega) (by simp [Dt.intF])
              refine D.oneYes (i := 17) rfl rfl (isF rfl c41) (by kernel_rfl) ?_
              refine O.call Tryz.call42 (args1 rfl) (cor_spec _ _ _ _ _ h1055) ?_
              rintro v_56 w8 ⟨rfl, hw_⟩
              replace hw_ := hw_.symm
              subst hw_
              refine O.nil ⟨e7, ?_⟩
              refine D.takeYes (i := 18) rfl rfl rfl (by kernel_rfl) rfl (isF rfl c41) e7 ⟨_, rfl⟩ (fun w_ hw_ N_ hN => (O.lssI rfl rfl (O.nil hN))) ?_
              refine D.take (i := 19) rfl rfl rfl rfl (by kernel_rfl) e7 pick_form (fun w_ hw_ N_ hN => (O.pickF (isF rfl c41) (O.nil hN))) ?_
              refine D.done (by kernel_rfl) ?_
              exact ⟨(Ext.trans e6 e7), rfl, rfl, rfl, rfl, rfl, rfl, rfl, rfl, rfl, rfl, rfl, (Eq.trans rfl (congrArg Value.bool (by first | (rw [decide_eq_true c41]; rfl) | (rw [decide_eq_false c41, Bool.false_or]; exact hbo))))⟩
          ·
            rintro f_2 w8 ⟨e_2, s0_2, s1_2, s2_2, s6_2, s7_2, s8_2, s10_2, s12_2, s23_2, s24_2, s25_2, s58_2⟩
            have z_2 := e_2.size
            refine hK18 _ _ ?_
            refine C.cond s58_2 (fun c58 => ?_) (fun c58 => ?_)
            ·
              obtain ⟨hb9, hl9⟩ := Ds.bst_new hsk c58
              replace hl9 := hl9.trans (show Rnd.price (a * b) (Fl.canon (Ds.at' l k).fac) = Rnd.price (a * b) (Fl.canon (l[(k : Int).toNat]'(by omega)).fac) by simp only [hat, Int.toNat_natCast])
              refine C.region ?_
              refine O.mv ?_
              refine O.mv ?_
              refine O.asg ?_
              refine O.asg ?_
              refine O.nil ?_
              refine hK13 _ _ ?_
              refine hK12 _ _ ?_
              refine C.region ?_
              refine O.addI (Eq.trans s25_2 s25_1) rfl (by unfold InI; omega) ?_
              refine O.mv ?_
              refine O.nil ?_
              refine ⟨k + 1, ⟨rfl, (Eq.trans (Eq.trans s10_2 s25_1) (congrArg (Value.int .i64) hb9.symm)), (Eq.trans s12_2 (congrArg (Value.int .i64) (by rw [hl9]))), (Eq.trans s0_2 s0_1), (Eq.trans s1_2 s1_1), (Eq.trans s2_2 s2_1), (Eq.trans s8_2 s8_1), (Eq.trans s23_2 s23_1), (Eq.trans s24_2 s24_1), (Ext.trans (Ext.trans (Ext.new (Ext.trans e_1 e3) e4 (by rintro i hi rfl; omega)) e5) e_2), ?_⟩, by first | omega | (simp only []; omega)⟩
              omega
            ·
              obtain ⟨hb9, hl9⟩ := Ds.bst_keep hsk c58
              refine C.skip ?_
              refine hK13 _ _ ?_
              refine hK12 _ _ ?_
              refine C.region ?_
              refine O.addI (Eq.trans s25_2 s25_1) rfl (by unfold InI; omega) ?_
              refine O.mv ?_
              refine O.nil ?_
              refine ⟨k + 1, ⟨rfl, (Eq.trans (Eq.trans s6_2 s6_1) (congrArg (Value.int .i64) hb9.symm)), (Eq.trans (Eq.trans s7_2 s7_1) (congrArg (Value.int .i64) (by rw [hl9]))), (Eq.trans s0_2 s0_1), (Eq.trans s1_2 s1_1), (Eq.trans s2_2 s2_1), (Eq.trans s8_2 s8_1), (Eq.trans s23_2 s23_1), (Eq.trans s24_2 s24_1), (Ext.trans (Ext.trans (Ext.new (Ext.trans e_1 e3) e4 (by rintro i hi rfl; omega)) e5) e_2), ?_⟩, by first | omega | (simp only []; omega)⟩
              omega
      ·
        obtain rfl : k = l.length := by omega
        refine C.exit ?_
        refine hK9 _ _ ?_
        refine hK7 _ _ ?_
        refine C.seqK fun K19 hK19 => ?_
        refine C.region ?_
        refine O.mv ?_
        refine O.mv ?_
        refine O.asg ?_
        refine O.asg ?_
        refine O.asg ?_
        refine O.nil ?_
        refine hK19 _ _ ?_
        refine C.ret ?_
        refine Outs.three rfl s6_1 s7_1 rfl ?_
        first
        | exact ⟨tup3 hbR.symm hbP.symm he.symm, e_1⟩
        | exact ⟨tup3 (if_neg c18).symm (if_neg c18).symm rfl, e_1⟩

end Go.Proofs.YtbadfphdniliaaaGreatDoor
end
section
/- The sort's laying at this dump, under the name that the walks of floats use. No condition. -/
namespace Go.Proofs
open Go.Shelf
theorem Tryz.sortF : Go.Proofs.SlLaysF.n6 Tryz.prog Tryz.laysSlF6_f50_ren := Tryz.laysSlF6_f50
end Go.Proofs
end
section
/-
  The walks of discounts: all rules together, the mean, the laws' helpers. Conditions: what the library's variable holds; slices as they lie in memory.
-/
namespace Go.Proofs.YtbadfphdniliaaaGreatDoor
open Go.Pn Go.RowKit Go.Proofs
attribute [local irreducible] O C D


theorem blen_spec (w : World) : Ret Tryz.prog 66 #[.int .u64 ((0#64).toNat : Int)] w (fun v w' => (∃ k : Int, v = .int .i64 k) ∧ w' = w) := by
  refine Ret.of (Tryz.bits_Len 0 w (by decide) (by decide)) ?_
  rintro e w' ⟨rfl, rfl⟩
  exact ⟨_, rfl, ⟨_, rfl⟩, rfl⟩

theorem ins0_spec (w : World) :
    Ret Tryz.prog 77 #[.slice none 0 0, .int .i64 (0), .int .i64 (0), .func (.func 23) #[] #[]] w (fun v w' => v = .tuple #[] ∧ w' = w) := by
  refine enter (args := [.slice none 0 0, .int .i64 (0), .int .i64 (0), .func (.func 23) #[] #[]]) (n := 53) Tryz.func77 rfl rfl (Nat.le_of_ble_eq_true rfl) ?_
  refine C.seqK fun K1 hK1 => ?_
  refine C.region ?_
  refine O.mv ?_
  refine O.addI rfl rfl (by unfold InI; omega) ?_
  refine O.cast (v' := .int .i64 (1)) rfl ?_
  refine O.asg ?_
  refine O.nil ?_
  refine hK1 _ _ ?_
  refine C.block fun K2 hK2 => ?_
  refine C.loop0 (σ := Nat) (fun f0 w0 z f w => f 8 = .int .i64 (1) ∧ f 0 = f0 0 ∧ f 1 = f0 1 ∧ f 2 = f0 2 ∧ f 3 = f0 3 ∧ w = w0) (fun z => z) 0 ?_ ?_
  ·
    exact ⟨rfl, rfl, rfl, rfl, rfl, rfl⟩
  ·
    rintro z f_1 wx ⟨s8_1, s0_1, s1_1, s2_1, s3_1, rfl⟩
    refine C.seqK fun K3 hK3 => ?_
    refine C.seqK fun K4 hK4 => ?_
    refine C.region ?_
    refine O.mv ?_
    refine O.mv ?_
    refine O.lssI s8_1 s2_1 ?_
    refine O.cast (v' := .bool false) rfl ?_
    refine O.nil ?_
    refine hK4 _ _ ?_
    refine C.condF rfl ?_
    refine C.exit ?_
    refine hK2 _ _ ?_
    refine Outs.none rfl ?_
    exact ⟨rfl, rfl⟩

theorem pdq0_spec (lim : Int) (w : World) :
    Ret Tryz.prog 65 #[.slice none 0 0, .int .i64 (0), .int .i64 (0), .int .i64 (lim), .func (.func 23) #[] #[]] w (fun v w' => v = .tuple #[] ∧ w' = w) := by
  refine enter (args := [.slice none 0 0, .int .i64 (0), .int .i64 (0), .int .i64 (lim), .func (.func 23) #[] #[]]) (n := 148) Tryz.func65 rfl rfl (Nat.le_of_ble_eq_true rfl) ?_
  refine C.seqK fun K1 hK1 => ?_
  refine C.region ?_
  refine O.asg ?_
  refine O.nil ?_
  refine hK1 _ _ ?_
  refine C.seqK fun K2 hK2 => ?_
  refine C.region ?_
  refine O.asg ?_
  refine O.nil ?_
  refine hK2 _ _ ?_
  refine C.block fun K3 hK3 => ?_
  refine C.loop0 (σ := Nat) (fun f0 w0 z f w => f 1 = .int .i64 (0) ∧ f 2 = .int .i64 (0) ∧ f 10 = .bool (true) ∧ f 11 = .bool (true) ∧ f 0 = f0 0 ∧ f 4 = f0 4 ∧ w = w0) (fun z => z) 0 ?_ ?_
  ·
    exact ⟨rfl, rfl, rfl, rfl, rfl, rfl, rfl⟩
  ·
    rintro z f_1 wx ⟨s1_1, s2_1, s10_1, s11_1, s0_1, s4_1, rfl⟩
    refine C.block fun K4 hK4 => ?_
    refine C.seqK fun K5 hK5 => ?_
    refine C.region ?_
    refine O.mv ?_
    refine O.mv ?_
    refine O.subI s2_1 s1_1 (by unfold InI; omega) ?_
    refine O.cast (v' := .int .i64 (0)) rfl ?_
    refine O.asg ?_
    refine O.nil ?_
    refine hK5 _ _ ?_
    refine C.seqK fun K6 hK6 => ?_
    refine C.seqK fun K7 hK7 => ?_
    refine C.region ?_
    refine O.mv ?_
    refine O.leqI rfl rfl ?_
    refine O.cast (v' := .bool true) rfl ?_
    refine O.nil ?_
    refine hK7 _ _ ?_
    refine C.condT rfl ?_
    refine C.seqK fun K8 hK8 => ?_
    refine C.region ?_
    refine O.mv ?_
    refine O.mv ?_
    refine O.mv ?_
    refine O.mv ?_
    refine O.call Tryz.call77 (args4 s0_1 s1_1 s2_1 s4_1) (ins0_spec _) ?_
    rintro v_30 w1 ⟨rfl, hw_⟩
    replace hw_ := hw_.symm
    subst hw_
    refine O.nil ?_
    refine hK8 _ _ ?_
    refine C.ret ?_
    refine Outs.none rfl ?_
    exact ⟨rfl, rfl⟩

theorem sort0_spec (w : World) :
    Ret Tryz.prog 50 #[.slice none 0 0, .func (.func 23) #[] #[]] w (fun v w' => v = .tuple #[] ∧ w' = w) := by
  refine enter (args := [.slice none 0 0, .func (.func 23) #[] #[]]) (n := 14) Tryz.func50 rfl rfl (Nat.le_of_ble_eq_true rfl) ?_
  refine C.seqK fun K1 hK1 => ?_
  refine C.region ?_
  refine O.mv ?_
  refine O.lenL Tryz.underlying37 rfl ?_
  refine O.cast (v' := .int .i64 0) rfl ?_
  refine O.asg ?_
  refine O.nil ?_
  refine hK1 _ _ ?_
  refine C.region ?_
  refine O.mv ?_
  refine O.mv ?_
  refine O.mv ?_
  refine O.convIU (m' := 64) Tryz.underlying3 Tryz.underlying88 rfl rfl rfl ?_
  refine O.cast (v' := .int .u64 ((0#64).toNat : Int)) rfl ?_
  refine O.call Tryz.call66 (args1 rfl) (blen_spec _) ?_
  rintro v_11 w1 ⟨⟨kv11, rfl⟩, rfl⟩
  refine O.mv ?_
  refine O.call Tryz.call65 (args5 rfl rfl rfl rfl rfl) (pdq0_spec _ _) ?_
  rintro v_13 w1 ⟨rfl, hw_⟩
  replace hw_ := hw_.symm
  subst hw_
  refine O.nil ?_
  refine Outs.none rfl ?_
  exact ⟨rfl, rfl⟩


theorem swoF : Go.Sort.SWO (ltOf Fl.cmp) where
  irrefl x := by unfold ltOf; exact decide_eq_false (by rw [Fl.cmp_self]; decide)
  trans x y z h1 h2 := by
    unfold ltOf at *
    simp only [decide_eq_true_eq] at *
    rw [Fl.cmp_lt_iff] at *
    rw [BitVec.lt_def] at *
    omega
  ntrans x y z h1 h2 := by
    unfold ltOf at *
    simp only [decide_eq_false_iff_not] at *
    rw [Fl.cmp_lt_iff] at *
    rw [BitVec.lt_def] at *
    omega
theorem sortF_spec (v : Value) (l : List (BitVec 64)) (B : Nat) (w : World) (h : OwnF flF 22 B w v l) (hn : l.length ≤ 1000000) :
    Ret Tryz.prog 50 #[v, .func (.func 23) #[] #[]] w (fun r w' => r = .tuple #[] ∧ OwnF flF 22 B w' v (Fl.sorted l) ∧ Ext (bk v) w w') := by
  rcases h.1.2 with ⟨rfl, h0⟩ | ⟨g, cap, cur, rfl, _⟩
  · obtain rfl : l = [] := List.eq_nil_of_length_eq_zero h0
    refine (sort0_spec w).mono ?_
    rintro e w' ⟨rfl, rfl⟩
    exact ⟨rfl, h, Ext.refl _ _⟩
  · obtain ⟨hH, hlt⟩ := h.holds (enc := fl) rfl (fun _ => rfl)
    have eg : ∀ args w, (callFunc 23 args).run Tryz.prog w = .ok (.enter 23 args) w := enters_of Tryz.func23 (by kernel_rfl) rfl
    have hcmp : CmpReads Tryz.prog 23 #[] fl Fl.cmp g 0 l.toArray.size w := fun m os dk hs x y =>
      (cmp_spec x y _).calls.mono fun e w' ⟨v, he, hv, hw⟩ => ⟨by rw [he, hv], 0, hw⟩
    have hs : l.toArray.size < 4611686018427387904 := by simp; omega
    have hcon := Any.slices_SortFunc Tryz.sortF fl (fun _ => rfl) Fl.cmp swoF 23 #[] g 0 cap l.toArray w eg hcmp.lays hH hlt hs
    refine Ret.of hcon ?_
    rintro e w' ⟨rfl, d', m, os, hp, hso, rfl⟩
    obtain ⟨hd, _, hperm⟩ := hp
    have hd2 : d'.size = l.length := by simpa using hd
    obtain ⟨h1, h2⟩ := h.sorted (enc := fl) rfl (fun _ => rfl) hd2 m os
    have hq : d'.toList = Fl.sorted l := by
      refine Fl.sorted_of_asc ?_ ?_
      · have e1 : (l.toArray.extract 0 l.toArray.size).toList = l := by simp
        have e2 : (d'.extract 0 l.toArray.size).toList = d'.toList := by rw [← hd]; simp
        rw [e1, e2] at hperm
        exact hperm
      · unfold Fl.Asc
        rw [List.pairwise_iff_getElem]
        intro i j hi hj hij
        have hi2 : i < d'.size := by simpa using hi
        have hj2 : j < d'.size := by simpa using hj
        have h3 := hso i j (Nat.zero_le _) hij (by simpa [hd2] using hj)
        unfold ltOf at h3
        simp only [decide_eq_false_iff_not] at h3
        rw [Fl.cmp_lt_iff, getElem!_pos d' i hi2, getElem!_pos d' j hj2, BitVec.lt_def] at h3
        rw [BitVec.le_def]
        simp only [Array.getElem_toList]
        omega
    rw [hq] at h1
    exact ⟨_, rfl, rfl, h1, h2.mono fun k _ hk => hk⟩

theorem clone_spec (v0 : Value) (l : List (BitVec 64)) (F : Nat → Prop) (w : World) (hl : Sl flE w F v0 l) (hn : l.length ≤ 1000000) :
    Ret Tryz.prog 49 #[v0] w (fun v w' => Le w w' ∧ OwnF flF 22 w.heap.size w' v l) := by
  have hle := hl.le
  obtain ⟨ie22, ti22, ts22, tb22, tz22⟩ := inf22
  refine enter (args := [v0]) (n := 8) Tryz.func49 rfl rfl (Nat.le_of_ble_eq_true rfl) ?_
  refine C.seqK fun K1 hK1 => ?_
  refine C.region ?_
  refine O.asg ?_
  refine O.nil ?_
  refine hK1 _ _ ?_
  refine C.seqK fun K2 hK2 => ?_
  refine C.seqK fun K3 hK3 => ?_
  refine C.region ?_
  refine O.mv ?_
  refine O.eqlNilS Tryz.underlying37 rfl hl ?_
  refine O.nil ?_
  refine hK3 _ _ ?_
  refine C.cond rfl (fun c4 => ?_) (fun c4 => ?_)
  ·
    refine C.seqK fun K4 hK4 => ?_
    refine C.region ?_
    refine O.asg ?_
    refine O.nil ?_
    refine hK4 _ _ ?_
    refine C.ret ?_
    refine Outs.one rfl rfl ?_
    first
    | (obtain rfl := isNilS_nil hl c4
       exact ⟨(Le.refl _), OwnF.nil _ _ _ _⟩)
    | exact ⟨(Le.refl _), {app:7}⟩
  ·
    refine C.skip ?_
    refine hK2 _ _ ?_
    refine C.seqK fun K5 hK5 => ?_
    refine C.region ?_
    refine O.lit0 Tryz.underlying37 ti22 (fun b5 w1 hb5 hz5 e1 => ?_)
    have z1 := e1.size
    have h5 := hz5.own
    have hl5 := h5.lt
    have h1005 : OwnF flF 22 w.heap.size w1 _ [] := OwnF.lit0 hz5 hb5
    refine O.mv ?_
    refine O.appF (G := flF) Tryz.underlying37 ti22 tz22 ts22 rfl rfl rfl h1005 (hl.keep e1) (by rw [tb22]; simp; omega) (by unfold maxLen; simp; omega) (by omega) (fun v7 w2 h7 e2 => ?_)
    have z2 := e2.size
    have h7s := h7.sl
    refine O.asg ?_
    refine O.nil ?_
    refine hK5 _ _ ?_
    refine C.ret ?_
    refine Outs.one rfl rfl ?_
    first
    | (obtain rfl := isNilS_nil hl c4
       exact ⟨(Ext.new e1 e2 (by intro i hi h; have := h1005.bk_ge i h; omega)), OwnF.nil _ _ _ _⟩)
    | exact ⟨(Ext.new e1 e2 (by intro i hi h; have := h1005.bk_ge i h; omega)), h7⟩

theorem fsorted_spec (v0 : Value) (l : List (BitVec 64)) (F : Nat → Prop) (w : World) (hl : Sl flE w F v0 l) (hn : l.length ≤ 1000000) :
    Ret Tryz.prog 36 #[v0] w (fun v w' => Le w w' ∧ OwnF flF 22 w.heap.size w' v (Fl.sorted l)) := by
  refine enter (args := [v0]) (n := 9) Tryz.func36 rfl rfl (Nat.le_of_ble_eq_true rfl) ?_
  refine C.seqK fun K1 hK1 => ?_
  refine C.region ?_
  refine O.asg ?_
  refine O.nil ?_
  refine hK1 _ _ ?_
  refine C.seqK fun K2 hK2 => ?_
  refine C.region ?_
  refine O.mv ?_
  refine O.call Tryz.call49 (args1 rfl) (clone_spec _ _ _ _ hl hn) ?_
  rintro v_5 w1 ⟨e1, h5⟩
  have z1 := e1.size
  refine O.asg ?_
  refine O.nil ?_
  refine hK2 _ _ ?_
  refine C.seqK fun K3 hK3 => ?_
  refine C.region ?_
  refine O.mv ?_
  refine O.call Tryz.call50 (args2 rfl rfl) (sortF_spec _ _ _ _ h5 hn) ?_
  rintro v_7 w2 ⟨rfl, h7, e2⟩
  have z2 := e2.size
  refine O.nil ?_
  refine hK3 _ _ ?_
  refine C.seqK fun K4 hK4 => ?_
  refine C.region ?_
  refine O.mv ?_
  refine O.asg ?_
  refine O.nil ?_
  refine hK4 _ _ ?_
  refine C.ret ?_
  refine Outs.one rfl rfl ?_
  exact ⟨(Ext.new e1 e2 (by intro i hi h; have := h5.bk_ge i h; omega)), h7⟩

set_option maxHeartbeats 1000000 in
theorem fsum_spec (v0 : Value) (l : List (BitVec 64)) (F : Nat → Prop) (w : World) (hl : Sl flE w F v0 l) (hn : l.length ≤ 1000000) :
    Ret Tryz.prog 22 #[v0] w (fun v w' => Le w w' ∧ v = fl (Fl.tot l)) := by
  have hle := hl.le
  obtain ⟨ie22, ti22, ts22, tb22, tz22⟩ := inf22
  refine enter (args := [v0]) (n := 38) Tryz.func22 rfl rfl (Nat.le_of_ble_eq_true rfl) ?_
  refine C.seqK fun K1 hK1 => ?_
  refine C.region ?_
  refine O.asg ?_
  refine O.nil ?_
  refine hK1 _ _ ?_
  refine C.seqK fun K2 hK2 => ?_
  refine C.region ?_
  refine O.mv ?_
  refine O.len Tryz.underlying37 rfl hl ?_
  refine O.mkF (G := flF) (zx := 0#64) Tryz.underlying37 ti22 tz22 ts22 rfl rfl rfl (by rw [tb22]; omega) (by unfold maxLen; omega) (Nat.le_refl _) (fun b11 w1 hb11 hz11 ho11 e1 => ?_)
  have z1 := e1.size
  have ho11s := ho11.sl
  have h1011 : Own w1 b11 22 (Fl.part 0 l) := by rw [Fl.part_zero]; exact hz11.own
  refine O.asg ?_
  refine O.nil ?_
  refine hK2 _ _ ?_
  refine C.seqK fun K3 hK3 => ?_
  refine C.seqK fun K4 hK4 => ?_
  refine C.region ?_
  refine O.mv ?_
  refine O.len Tryz.underlying37 rfl (hl.keep e1) ?_
  refine O.mv ?_
  refine O.nil ?_
  refine hK4 _ _ ?_
  refine C.block fun K5 hK5 => ?_
  refine C.loop0 (σ := Nat) (fun f0 w0 k f w => f 14 = .int .i64 (k) ∧ f 2 = f0 2 ∧ f 3 = f0 3 ∧ f 12 = f0 12 ∧ f 13 = f0 13 ∧ Ext (fun k => k = b11) w0 w ∧ Own w b11 22 (Fl.part k l) ∧ k ≤ l.length) (fun k => l.length - k) 0 ?_ ?_
  ·
    refine ⟨rfl, rfl, rfl, rfl, rfl, Ext.refl _ _, h1011, ?_⟩
    exact Nat.zero_le _
  ·
    rintro k f_1 w2 ⟨s14_1, s2_1, s3_1, s12_1, s13_1, e_1, r0_1, hk⟩
    have z_1 := e_1.size
    refine C.seqK fun K6 hK6 => ?_
    refine C.region ?_
    refine O.lssI s14_1 s13_1 ?_
    refine O.nil ?_
    refine hK6 _ _ ?_
    refine C.seqK fun K7 hK7 => ?_
    refine C.condD rfl (fun c15 => ?_) (fun c15 => ?_)
    ·
      have hk2 : k < l.length := by omega
      refine C.skip ?_
      refine hK7 _ _ ?_
      refine C.seqK fun K8 hK8 => ?_
      refine C.block fun K9 hK9 => ?_
      refine C.seqK fun K10 hK10 => ?_
      refine C.region ?_
      refine O.mv ?_
      refine O.idx Tryz.underlying37 Tryz.sizeOf22 rfl s12_1 (hl.keep (Ext.new e1 e_1 (by rintro i hi rfl; omega))) s14_1 (by omega) (fun a17 h17 => ?_)
      refine O.loadF Tryz.isAgg22 rfl h17 ?_
      refine O.asg ?_
      refine O.asg ?_
      refine O.nil ?_
      refine hK10 _ _ ?_
      refine C.region ?_
      refine O.mv ?_
      refine O.mv ?_
      refine O.mv ?_
      refine O.call Tryz.call35 (args1 rfl) (canon_spec _ _) ?_
      rintro v_22 w3 ⟨rfl, hw_⟩
      replace hw_ := hw_.symm
      subst hw_
      refine O.idxO Tryz.underlying37 Tryz.sizeOf22 s3_1 s14_1 (by omega) ?_
      refine O.store Tryz.sizeOf22 rfl rfl rfl r0_1 (by rw [Fl.part_length (by omega)]; simp; omega) (fun w3 hs3 e3 z3 => ?_)
      try simp only [Int.toNat_natCast, Nat.zero_add, Nat.mul_one] at hs3
      replace hs3 : Own w3 b11 22 (Fl.part (k + 1) l) := by rw [← Fl.part_set hk2]; exact hs3
      refine O.nil ?_
      refine hK9 _ _ ?_
      refine hK8 _ _ ?_
      refine C.region ?_
      refine O.addI s14_1 rfl (by unfold InI; omega) ?_
      refine O.mv ?_
      refine O.nil ?_
      refine ⟨k + 1, ⟨rfl, s2_1, s3_1, s12_1, s13_1, (Ext.trans e_1 (e3)), hs3, ?_⟩, by first | omega | (simp only []; omega)⟩
      omega
    ·
      refine C.exit ?_
      refine hK5 _ _ ?_
      refine hK3 _ _ ?_
      refine C.seqK fun K11 hK11 => ?_
      refine C.region ?_
      refine O.asg ?_
      refine O.nil ?_
      refine hK11 _ _ ?_
      refine C.seqK fun K12 hK12 => ?_
      refine C.seqK fun K13 hK13 => ?_
      refine C.region ?_
      refine O.mv ?_
      obtain rfl : k = l.length := by omega
      have h1025 : Sl flE w2 (fun k => k = b11) (.slice (some ⟨b11, 0, none⟩) l.length l.length) (l.map Fl.canon) := by
        have hq := Sl.of_own (G := flF) (xs := l.map Fl.canon) (cap := l.length) r0_1 (by rw [Fl.part_end, ← flF.length, List.take_length]) (by simp) (by have := hl.1; exact this) (by rw [Fl.part_length (Nat.le_refl _)]; show l.length * 1 ≤ _; omega)
        rw [List.length_map] at hq
        exact hq
      refine O.call Tryz.call36 (args1 s3_1) (fsorted_spec _ _ _ _ h1025 (by rw [List.length_map]; exact hn)) ?_
      rintro v_26 w4 ⟨e4, h26⟩
      have z4 := e4.size
      have h26s := h26.sl
      replace h26 := h26.low (B' := w.heap.size) (by omega)
      refine O.len Tryz.underlying37 rfl h26s ?_
      refine O.mv ?_
      refine O.nil ?_
      refine hK13 _ _ ?_
      refine C.block fun K14 hK14 => ?_
      refine C.loop0 (σ := Nat × BitVec 64) (fun f0 w0 ⟨j, s⟩ f wz => f 6 = fl (s) ∧ f 28 = .int .i64 (j) ∧ f 2 = f0 2 ∧ f 26 = f0 26 ∧ f 27 = f0 27 ∧ Le w wz ∧ OwnF flF 22 w.heap.size wz v_26 (Fl.sorted (l.map Fl.canon)) ∧ j ≤ (Fl.sorted (l.map Fl.canon)).length ∧ Fl.Sum ((Fl.sorted (l.map Fl.canon)).take j) s) (fun ⟨j, s⟩ => (Fl.sorted (l.map Fl.canon)).length - j) (0, 0#64) ?_ ?_
      ·
        refine ⟨rfl, rfl, rfl, rfl, rfl, (Ext.trans (Ext.new e1 e_1 (by rintro i hi rfl; omega)) e4), h26, ?_⟩
        exact ⟨Nat.zero_le _, Fl.Sum.nil⟩
      ·
        rintro ⟨j, s⟩ f_2 w5 ⟨s6_2, s28_2, s2_2, s26_2, s27_2, e_2, r0_2, ⟨hj, hS⟩⟩
        have z_2 := e_2.size
        have r0_2s := r0_2.sl
        refine C.seqK fun K15 hK15 => ?_
        refine C.region ?_
        refine O.lssI s28_2 s27_2 ?_
        refine O.nil ?_
        refine hK15 _ _ ?_
        refine C.seqK fun K16 hK16 => ?_
        refine C.condD rfl (fun c29 => ?_) (fun c29 => ?_)
        ·
          refine C.skip ?_
          refine hK16 _ _ ?_
          refine C.seqK fun K17 hK17 => ?_
          refine C.block fun K18 hK18 => ?_
          refine C.seqK fun K19 hK19 => ?_
          refine C.region ?_
          refine O.idx Tryz.underlying37 Tryz.sizeOf22 rfl s26_2 r0_2s s28_2 (by omega) (fun a30 h30 => ?_)
          refine O.loadF Tryz.isAgg22 rfl h30 ?_
          refine O.asg ?_
          refine O.nil ?_
          refine hK19 _ _ ?_
          refine C.region ?_
          refine O.mv ?_
          refine O.mv ?_
          refine O.addF s6_2 rfl (fun r34 w6 e6 hf34 => ?_)
          have z6 := e6.size
          refine O.asg ?_
          refine O.nil ?_
          refine hK18 _ _ ?_
          refine hK17 _ _ ?_
          refine C.region ?_
          refine O.addI s28_2 rfl (by have hq := Fl.sorted_length (l.map Fl.canon); rw [List.length_map] at hq; unfold InI; omega) ?_
          refine O.mv ?_
          refine O.nil ?_
          refine ⟨(j + 1, _), ⟨rfl, rfl, s2_2, s26_2, s27_2, (Ext.trans e_2 e6), (r0_2.keep e6), ?_⟩, by first | omega | (simp only []; omega)⟩
          have hjl : j < (Fl.sorted (l.map Fl.canon)).length := by omega
          refine ⟨by omega, ?_⟩
          rw [List.take_succ_eq_append_getElem hjl]
          exact Fl.Sum.snoc hS hf34
        ·
          refine C.exit ?_
          refine hK14 _ _ ?_
          refine hK12 _ _ ?_
          refine C.seqK fun K20 hK20 => ?_
          refine C.region ?_
          refine O.mv ?_
          refine O.call Tryz.call35 (args1 s6_2) (canon_spec _ _) ?_
          rintro v_37 w7 ⟨rfl, hw_⟩
          replace hw_ := hw_.symm
          subst hw_
          refine O.asg ?_
          refine O.nil ?_
          refine hK20 _ _ ?_
          refine C.ret ?_
          refine Outs.one rfl rfl ?_
          obtain rfl : j = (Fl.sorted (l.map Fl.canon)).length := by omega
          refine ⟨e_2, congrArg fl ?_⟩
          rw [List.take_length] at hS
          exact Fl.tot_eq hS

set_option maxHeartbeats 4000000 in
theorem dtog_spec (c q : Int) (v2 : Value) (l : List Ds.Rule) (F : Nat → Prop) (w : World) (hl : Sl Ds.ruleF.enc w F v2 l) (mx : Mx w) :
    Ret Tryz.prog 26 #[.int .i64 (c), .int .i64 (q), v2] w (fun v w' => v = .tuple #[.int .i64 (Ds.togP c q l), fl (Ds.togF c q l), .int .i64 (Ds.errOf c q l)] ∧ Le w w') := by
  have hle := hl.le
  obtain ⟨ie22, ti22, ts22, tb22, tz22⟩ := inf22
  refine enter (args := [.int .i64 (c), .int .i64 (q), v2]) (n := 55) Tryz.func26 rfl rfl (Nat.le_of_ble_eq_true rfl) ?_
  refine C.seqK fun K1 hK1 => ?_
  refine C.region ?_
  refine O.asg ?_
  refine O.asg ?_
  refine O.asg ?_
  refine O.nil ?_
  refine hK1 _ _ ?_
  refine C.seqK fun K2 hK2 => ?_
  refine C.seqK fun K3 hK3 => ?_
  refine C.region ?_
  refine O.mv ?_
  refine O.mv ?_
  refine O.mv ?_
  refine O.call Tryz.call41 (args3 rfl rfl rfl) (check_spec c q v2 l F _ hl mx) ?_
  rintro v_18 w1 ⟨rfl, e1⟩
  have z1 := e1.size
  refine O.asg ?_
  refine O.nil ?_
  refine hK3 _ _ ?_
  refine C.seqK fun K4 hK4 => ?_
  refine C.region ?_
  refine O.mv ?_
  refine O.neqI rfl rfl ?_
  refine O.nil ?_
  refine hK4 _ _ ?_
  refine C.condD rfl (fun c20 => ?_) (fun c20 => ?_)
  ·
    refine C.seqK fun K5 hK5 => ?_
    refine C.region ?_
    refine O.mv ?_
    refine O.asg ?_
    refine O.asg ?_
    refine O.asg ?_
    refine O.nil ?_
    refine hK5 _ _ ?_
    refine C.ret ?_
    refine Outs.three rfl rfl rfl rfl ?_
    first
    | exact ⟨tupf htP.symm htF.symm he.symm, e1⟩
    | exact ⟨tupf (b := 0#64) (if_neg c20).symm (if_neg c20).symm rfl, e1⟩
  ·
    have he : Ds.errOf c q l = 0 := Decidable.of_not_not c20
    obtain ⟨hlen, hok, hbad⟩ := Ds.err_ok he
    have hbR : Ds.bestR c q l = Ds.bst (c.toNat * q.toNat) q l l.length := if_pos he
    have hbP : Ds.bestP c q l = (Ds.least (c.toNat * q.toNat) q l l.length : Nat) := if_pos he
    have htP : Ds.togP c q l = (Rnd.price (c.toNat * q.toNat) (Ds.whole q l) : Nat) := if_pos he
    have htF : Ds.togF c q l = Ds.whole q l := if_pos he
    obtain ⟨a, b, hca, hqb, hc, hq, hab⟩ := Ds.prod_lt hok
    clear hok
    subst hca hqb
    rw [Int.toNat_natCast, Int.toNat_natCast] at hbR hbP htP
    have hwu := Ds.whole_unit (q := (b : Int)) hbad
    have hfu := Ds.sorted_unit (Ds.facs_unit (q := (b : Int)) hbad)
    have hfl := Ds.facs_len (b : Int) l
    have hsl := Fl.sorted_length (Ds.facs (b : Int) l)
    refine C.skip ?_
    refine hK2 _ _ ?_
    refine C.seqK fun K6 hK6 => ?_
    refine C.region ?_
    refine O.asg ?_
    refine O.nil ?_
    refine hK6 _ _ ?_
    refine C.seqK fun K7 hK7 => ?_
    refine C.seqK fun K8 hK8 => ?_
    refine C.region ?_
    refine O.mv ?_
    refine O.len Tryz.underlying32 rfl (hl.keep e1) ?_
    refine O.mv ?_
    refine O.nil ?_
    refine hK8 _ _ ?_
    refine C.block fun K9 hK9 => ?_
    refine C.loop0 (σ := Nat × Value) (fun f0 w0 ⟨k, o⟩ f wz => f 24 = .int .i64 ((k : Int)) ∧ f 10 = o ∧ f 0 = f0 0 ∧ f 1 = f0 1 ∧ f 6 = f0 6 ∧ f 7 = f0 7 ∧ f 8 = f0 8 ∧ f 22 = f0 22 ∧ f 23 = f0 23 ∧ Le w wz ∧ OwnF flF 22 w.heap.size wz o (Ds.facs (b : Int) (l.take k)) ∧ k ≤ l.length) (fun ⟨k, o⟩ => l.length - k) (0, .slice none 0 0) ?_ ?_
    ·
      refine ⟨rfl, rfl, rfl, rfl, rfl, rfl, rfl, rfl, rfl, e1, (OwnF.nil _ _ _ _), ?_⟩
      exact Nat.zero_le _
    ·
      rintro ⟨k, o⟩ f_1 w2 ⟨s24_1, s10_1, s0_1, s1_1, s6_1, s7_1, s8_1, s22_1, s23_1, e_1, r0_1, hk⟩
      have z_1 := e_1.size
      have r0_1s := r0_1.sl
      refine C.seqK fun K10 hK10 => ?_
      refine C.region ?_
      refine O.lssI s24_1 s23_1 ?_
      refine O.nil ?_
      refine hK10 _ _ ?_
      refine C.seqK fun K11 hK11 => ?_
      refine C.condD rfl (fun c25 => ?_) (fun c25 => ?_)
      ·
        have hk2 : k < l.length := by omega
        have hfk := Ds.facs_len (b : Int) (l.take k)
        rw [List.length_take] at hfk
        have hft := Ds.facs_take (q := (b : Int)) hk2
        refine C.skip ?_
        refine hK11 _ _ ?_
        refine C.seqK fun K12 hK12 => ?_
        refine C.block fun K13 hK13 => ?_
        refine C.seqK fun K14 hK14 => ?_
        refine C.region ?_
        refine O.idx Tryz.underlying32 Tryz.sizeOf24 rfl s22_1 (hl.keep e_1) s24_1 (by omega) (fun a26 h26 => ?_)
        refine O.loadG (G := Ds.ruleF) Tryz.isAgg24 Tryz.sizeOf24 rfl h26 ?_
        refine O.alloc Tryz.zeroValue24 (fun b12 w3 hb12 hz12 e3 => ?_)
        have z3 := e3.size
        have h12 := hz12.own
        have hl12 := h12.lt
        refine O.storeA (vs := [str (l[(k : Int).toNat]'(by omega)).name, .int .i64 (l[(k : Int).toNat]'(by omega)).lo, fl (l[(k : Int).toNat]'(by omega)).fac]) Tryz.sizeOf24 rfl rfl rfl (by simp [Value.oneCell', str, fl]) h12 (Nat.le_of_ble_eq_true rfl) (fun w4 hs4 e4 z4 => ?_)
        refine O.nil ?_
        refine hK14 _ _ ?_
        refine C.seqK fun K15 hK15 => ?_
        refine C.region ?_
        refine O.fieldAd Tryz.underlying24 rfl Tryz.sizeOf3 (by decide) rfl ?_
        refine O.loadO Tryz.isAgg3 rfl hs4 rfl ?_
        refine O.mv ?_
        refine O.leqI rfl s1_1 ?_
        refine O.nil ?_
        refine hK15 _ _ ?_
        refine C.condD rfl (fun c31 => ?_) (fun c31 => ?_)
        ·
          rw [if_pos (show l[k].lo ≤ (b : Int) from c31)] at hft
          refine C.region ?_
          refine O.mv ?_
          refine O.fieldAd Tryz.underlying24 rfl Tryz.sizeOf22 (by decide) rfl ?_
          refine O.loadO Tryz.isAgg22 rfl hs4 rfl ?_
          refine O.call Tryz.call35 (args1 rfl) (canon_spec _ _) ?_
          rintro v_35 w5 ⟨rfl, hw_⟩
          replace hw_ := hw_.symm
          subst hw_
          refine O.lit1 Tryz.underlying37 ti22 ts22 tz22 rfl rfl (fun b36 w5 hb36 hz36 e5 => ?_)
          have z5 := e5.size
          have h36 := hz36.own
          have hl36 := h36.lt
          have h1036 : Sl flF.enc w5 (fun k => k = b36) _ [Fl.canon (l[(k : Int).toNat]'(by omega)).fac] := Sl.one h36 rfl rfl
          refine O.appF (G := flF) Tryz.underlying37 ti22 tz22 ts22 rfl s10_1 rfl (((r0_1.keep e3).keepM e4 (fun k hk h => by have := r0_1.bk_ge k hk; (try dsimp only at h); omega)).keep e5) h1036 (by rw [tb22]; simp; omega) (by unfold maxLen; simp; omega) (by omega) (fun v37 w6 h37 e6 => ?_)
          have z6 := e6.size
          have h37s := h37.sl
          refine O.asg ?_
          refine O.nil ?_
          refine hK13 _ _ ?_
          refine hK12 _ _ ?_
          refine C.region ?_
          refine O.addI s24_1 rfl (by unfold InI; omega) ?_
          refine O.mv ?_
          refine O.nil ?_
          refine ⟨(k + 1, _), ⟨rfl, rfl, s0_1, s1_1, s6_1, s7_1, s8_1, s22_1, s23_1, (Ext.new (Ext.trans (Ext.new (Ext.trans e_1 e3) e4 (by rintro i hi rfl; omega)) e5) e6 (by intro i hi h; have := (((r0_1.keep e3).keepM e4 (fun k hk h => by have := r0_1.bk_ge k hk; (try dsimp only at h); omega)).keep e5).bk_ge i h; omega)), (by rw [hft]; exact h37), ?_⟩, by first | omega | (simp only []; omega)⟩
          omega
        ·
          rw [if_neg (show ¬ l[k].lo ≤ (b : Int) from c31)] at hft
          refine C.skip ?_
          refine hK13 _ _ ?_
          refine hK12 _ _ ?_
          refine C.region ?_
          refine O.addI s24_1 rfl (by unfold InI; omega) ?_
          refine O.mv ?_
          refine O.nil ?_
          refine ⟨(k + 1, _), ⟨rfl, s10_1, s0_1, s1_1, s6_1, s7_1, s8_1, s22_1, s23_1, (Ext.new (Ext.trans e_1 e3) e4 (by rintro i hi rfl; omega)), (by rw [hft]; exact ((r0_1.keep e3).keepM e4 (fun k hk h => by have := r0_1.bk_ge k hk; (try dsimp only at h); omega))), ?_⟩, by first | omega | (simp only []; omega)⟩
          omega
      ·
        obtain rfl : k = l.length := by omega
        have h10x := r0_1
        rw [List.take_length] at h10x
        refine C.exit ?_
        refine hK9 _ _ ?_
        refine hK7 _ _ ?_
        refine C.seqK fun K16 hK16 => ?_
        refine C.region ?_
        refine O.asg ?_
        refine O.nil ?_
        refine hK16 _ _ ?_
        refine C.seqK fun K17 hK17 => ?_
        refine C.seqK fun K18 hK18 => ?_
        refine C.region ?_
        refine O.mv ?_
        have h10s := (h10x).sl
        refine O.call Tryz.call36 (args1 s10_1) (fsorted_spec _ (Ds.facs (b : Int) l) _ _ h10s (by omega)) ?_
        rintro v_40 w7 ⟨e7, h40⟩
        have z7 := e7.size
        have h40s := h40.sl
        replace h40 := h40.low (B' := w.heap.size) (by omega)
        refine O.len Tryz.underlying37 rfl h40s ?_
        refine O.mv ?_
        refine O.nil ?_
        refine hK18 _ _ ?_
        refine C.block fun K19 hK19 => ?_
        refine C.loop0 (σ := Nat) (fun f0 w0 j f wz => f 42 = .int .i64 ((j : Int)) ∧ f 7 = fl (Ds.prod ((Fl.sorted (Ds.facs (b : Int) l)).take j)) ∧ f 0 = f0 0 ∧ f 1 = f0 1 ∧ f 6 = f0 6 ∧ f 8 = f0 8 ∧ f 40 = f0 40 ∧ f 41 = f0 41 ∧ Le w wz ∧ OwnF flF 22 w.heap.size wz v_40 (Fl.sorted (Ds.facs (b : Int) l)) ∧ j ≤ (Fl.sorted (Ds.facs (b : Int) l)).length) (fun j => (Fl.sorted (Ds.facs (b : Int) l)).length - j) 0 ?_ ?_
        ·
          refine ⟨rfl, (Eq.trans rfl rfl), rfl, rfl, rfl, rfl, rfl, rfl, (Ext.trans e_1 e7), h40, ?_⟩
          exact Nat.zero_le _
        ·
          rintro j f_2 w8 ⟨s42_2, s7_2, s0_2, s1_2, s6_2, s8_2, s40_2, s41_2, e_2, r0_2, hj⟩
          have z_2 := e_2.size
          have r0_2s := r0_2.sl
          refine C.seqK fun K20 hK20 => ?_
          refine C.region ?_
          refine O.lssI s42_2 s41_2 ?_
          refine O.nil ?_
          refine hK20 _ _ ?_
          refine C.seqK fun K21 hK21 => ?_
          refine C.condD rfl (fun c43 => ?_) (fun c43 => ?_)
          ·
            have hj2 : j < (Fl.sorted (Ds.facs (b : Int) l)).length := by omega
            refine C.skip ?_
            refine hK21 _ _ ?_
            refine C.seqK fun K22 hK22 => ?_
            refine C.block fun K23 hK23 => ?_
            refine C.seqK fun K24 hK24 => ?_
            refine C.region ?_
            refine O.idx Tryz.underlying37 Tryz.sizeOf22 rfl s40_2 r0_2s s42_2 (by omega) (fun a44 h44 => ?_)
            refine O.loadF Tryz.isAgg22 rfl h44 ?_
            refine O.asg ?_
            refine O.nil ?_
            refine hK24 _ _ ?_
            refine C.region ?_
            refine O.mv ?_
            refine O.mv ?_
            refine O.mulF s7_2 rfl (fun r48 w9 e9 hf48 => ?_)
            have z9 := e9.size
            obtain rfl := Rnd.mul_pos (Ds.prod_unit (fun x hx => hfu x (List.mem_of_mem_take hx))).pos (hfu _ (List.getElem_mem _)).pos hf48
            refine O.asg ?_
            refine O.nil ?_
            refine hK23 _ _ ?_
            refine hK22 _ _ ?_
            refine C.region ?_
            refine O.addI s42_2 rfl (by unfold InI; omega) ?_
            refine O.mv ?_
            refine O.nil ?_
            refine ⟨j + 1, ⟨rfl, (Eq.trans rfl (congrArg fl (Ds.prod_take hj2).symm)), s0_2, s1_2, s6_2, s8_2, s40_2, s41_2, (Ext.trans e_2 e9), (r0_2.keep e9), ?_⟩, by first | omega | (simp only []; omega)⟩
            omega
          ·
            obtain rfl : j = (Fl.sorted (Ds.facs (b : Int) l)).length := by omega
            have hpw : Ds.prod (List.take (Fl.sorted (Ds.facs (b : Int) l)).length (Fl.sorted (Ds.facs (b : Int) l))) = (Ds.whole (b : Int) l) := by rw [List.take_length]; rfl
            rw [hpw] at s7_2
            refine C.exit ?_
            refine hK19 _ _ ?_
            refine hK17 _ _ ?_
            refine C.seqK fun K25 hK25 => ?_
            refine C.region ?_
            refine O.mv ?_
            refine O.mv ?_
            refine O.mv ?_
            refine O.call Tryz.call40 (args3 (Eq.trans s0_2 s0_1) (Eq.trans s1_2 s1_1) s7_2) (price_spec a b (Ds.whole (b : Int) l) _ hc hq (by rw [Ds.canon_unit hwu]; exact hwu)) ?_
            rintro v_53 w10 ⟨rfl, e10⟩
            have z10 := e10.size
            refine O.cast (v' := .int .i64 (Rnd.price (a * b) (Ds.whole (b : Int) l) : Nat)) (congrArg (fun x => Value.int .i64 (Rnd.price (a * b) x : Nat)) (Ds.canon_unit hwu)) ?_
            refine O.mv ?_
            refine O.asg ?_
            refine O.asg ?_
            refine O.asg ?_
            refine O.nil ?_
            refine hK25 _ _ ?_
            refine C.ret ?_
            refine Outs.three rfl rfl s7_2 rfl ?_
            first
            | exact ⟨tupf htP.symm htF.symm he.symm, (Ext.trans e_2 e10)⟩
            | exact ⟨tupf (b := 0#64) (if_neg c20).symm (if_neg c20).symm rfl, (Ext.trans e_2 e10)⟩

theorem prices_spec (c q : Int) (f : BitVec 64) (n e : Int) (w : World) (h1 : Ds.priceE c q f = n) (h2 : Ds.priceN c q f = e) :
    Ret Tryz.prog 12 #[.int .i64 (c), .int .i64 (q), fl (f), .int .i64 (n), .int .i64 (e)] w (fun v w' => v = .bool true ∧ Le w w') := by
  refine enter (args := [.int .i64 (c), .int .i64 (q), fl (f), .int .i64 (n), .int .i64 (e)]) (n := 28) Tryz.func12 rfl rfl (Nat.le_of_ble_eq_true rfl) ?_
  refine C.seqK fun K1 hK1 => ?_
  refine C.region ?_
  refine O.asg ?_
  refine O.nil ?_
  refine hK1 _ _ ?_
  refine C.seqK fun K2 hK2 => ?_
  refine C.region ?_
  refine O.mv ?_
  refine O.mv ?_
  refine O.mv ?_
  refine O.call Tryz.call24 (args3 rfl rfl rfl) (dprice_spec c q f _) ?_
  rintro v_17 w1 ⟨rfl, e1⟩
  have z1 := e1.size
  refine O.mv ?_
  refine O.extract rfl rfl ?_
  refine O.extract rfl rfl ?_
  refine O.asg ?_
  refine O.asg ?_
  refine O.nil ?_
  refine hK2 _ _ ?_
  refine C.seqK fun K3 hK3 => ?_
  refine C.region ?_
  refine O.mv ?_
  refine O.mv ?_
  refine O.eqlI rfl rfl ?_
  refine O.cast (v' := .bool true) (congrArg Value.bool (by exact decide_eq_true h1)) ?_
  refine O.mv ?_
  refine O.yes rfl rfl ?_
  refine O.mv ?_
  refine O.yes rfl rfl ?_
  refine O.mv ?_
  refine O.yes rfl rfl ?_
  refine O.eqlI rfl rfl ?_
  refine O.cast (v' := .bool true) (congrArg Value.bool (by exact decide_eq_true h2)) ?_
  refine O.pickT rfl ?_
  refine O.asg ?_
  refine O.nil ?_
  refine hK3 _ _ ?_
  refine C.ret ?_
  refine Outs.one rfl rfl ?_
  exact ⟨rfl, e1⟩

theorem bests_spec (c q : Int) (v2 : Value) (l : List Ds.Rule) (F : Nat → Prop) (r n e : Int) (w : World) (hl : Sl Ds.ruleF.enc w F v2 l) (mx : Mx w) (h1 : Ds.bestR c q l = r) (h2 : Ds.bestP c q l = n) (h3 : Ds.errOf c q l = e) :
    Ret Tryz.prog 16 #[.int .i64 (c), .int .i64 (q), v2, .int .i64 (r), .int .i64 (n), .int .i64 (e)] w (fun v w' => v = .bool true ∧ Le w w') := by
  refine enter (args := [.int .i64 (c), .int .i64 (q), v2, .int .i64 (r), .int .i64 (n), .int .i64 (e)]) (n := 37) Tryz.func16 rfl rfl (Nat.le_of_ble_eq_true rfl) ?_
  refine C.seqK fun K1 hK1 => ?_
  refine C.region ?_
  refine O.asg ?_
  refine O.nil ?_
  refine hK1 _ _ ?_
  refine C.seqK fun K2 hK2 => ?_
  refine C.region ?_
  refine O.mv ?_
  refine O.mv ?_
  refine O.mv ?_
  refine O.call Tryz.call27 (args3 rfl rfl rfl) (dbest_spec c q v2 l F _ hl mx) ?_
  rintro v_20 w1 ⟨rfl, e1⟩
  have z1 := e1.size
  refine O.mv ?_
  refine O.extract rfl rfl ?_
  refine O.extract rfl rfl ?_
  refine O.extract rfl rfl ?_
  refine O.asg ?_
  refine O.asg ?_
  refine O.asg ?_
  refine O.nil ?_
  refine hK2 _ _ ?_
  refine C.seqK fun K3 hK3 => ?_
  refine C.region ?_
  refine O.mv ?_
  refine O.mv ?_
  refine O.eqlI rfl rfl ?_
  refine O.cast (v' := .bool true) (congrArg Value.bool (by exact decide_eq_true h1)) ?_
  refine O.mv ?_
  refine O.yes rfl rfl ?_
  refine O.mv ?_
  refine O.yes rfl rfl ?_
  refine O.mv ?_
  refine O.yes rfl rfl ?_
  refine O.eqlI rfl rfl ?_
  refine O.cast (v' := .bool true) (congrArg Value.bool (by exact decide_eq_true h2)) ?_
  refine O.pickT rfl ?_
  refine O.mv ?_
  refine O.yes rfl rfl ?_
  refine O.mv ?_
  refine O.yes rfl rfl ?_
  refine O.mv ?_
  refine O.yes rfl rfl ?_
  refine O.eqlI rfl rfl ?_
  refine O.cast (v' := .bool true) (congrArg Value.bool (by exact decide_eq_true h3)) ?_
  refine O.pickT rfl ?_
  refine O.asg ?_
  refine O.nil ?_
  refine hK3 _ _ ?_
  refine C.ret ?_
  refine Outs.one rfl rfl ?_
  exact ⟨rfl, e1⟩

theorem together_spec (c q : Int) (v2 : Value) (l : List Ds.Rule) (F : Nat → Prop) (n : Int) (f : BitVec 64) (e : Int) (w : World) (hl : Sl Ds.ruleF.enc w F v2 l) (mx : Mx w) (h1 : Ds.togP c q l = n) (h2 : Ds.togF c q l = f) (h3 : Ds.errOf c q l = e) (h4 : Rnd.Unit f) :
    Ret Tryz.prog 17 #[.int .i64 (c), .int .i64 (q), v2, .int .i64 (n), fl (f), .int .i64 (e)] w (fun v w' => v = .bool true ∧ Le w w') := by
  refine enter (args := [.int .i64 (c), .int .i64 (q), v2, .int .i64 (n), fl (f), .int .i64 (e)]) (n := 37) Tryz.func17 rfl rfl (Nat.le_of_ble_eq_true rfl) ?_
  refine C.seqK fun K1 hK1 => ?_
  refine C.region ?_
  refine O.asg ?_
  refine O.nil ?_
  refine hK1 _ _ ?_
  refine C.seqK fun K2 hK2 => ?_
  refine C.region ?_
  refine O.mv ?_
  refine O.mv ?_
  refine O.mv ?_
  refine O.call Tryz.call26 (args3 rfl rfl rfl) (dtog_spec c q v2 l F _ hl mx) ?_
  rintro v_20 w1 ⟨rfl, e1⟩
  have z1 := e1.size
  refine O.mv ?_
  refine O.extract rfl rfl ?_
  refine O.extract rfl rfl ?_
  refine O.extract rfl rfl ?_
  refine O.asg ?_
  refine O.asg ?_
  refine O.asg ?_
  refine O.nil ?_
  refine hK2 _ _ ?_
  refine C.seqK fun K3 hK3 => ?_
  refine C.region ?_
  refine O.mv ?_
  refine O.mv ?_
  refine O.eqlI rfl rfl ?_
  refine O.cast (v' := .bool true) (congrArg Value.bool (by exact decide_eq_true h1)) ?_
  refine O.mv ?_
  refine O.yes rfl rfl ?_
  refine O.mv ?_
  refine O.yes rfl rfl ?_
  refine O.mv ?_
  refine O.yes rfl rfl ?_
  refine O.eqlF rfl rfl ?_
  refine O.cast (v' := .bool true) (congrArg Value.bool (by rw [h2]; exact decide_eq_true ((Rnd.feq_unit h4 h4).2 rfl))) ?_
  refine O.pickT rfl ?_
  refine O.mv ?_
  refine O.yes rfl rfl ?_
  refine O.mv ?_
  refine O.yes rfl rfl ?_
  refine O.mv ?_
  refine O.yes rfl rfl ?_
  refine O.eqlI rfl rfl ?_
  refine O.cast (v' := .bool true) (congrArg Value.bool (by exact decide_eq_true h3)) ?_
  refine O.pickT rfl ?_
  refine O.asg ?_
  refine O.nil ?_
  refine hK3 _ _ ?_
  refine C.ret ?_
  refine Outs.one rfl rfl ?_
  exact ⟨rfl, e1⟩

theorem mnan_spec (w : World) :
    Ret Tryz.prog 44 #[] w (fun v w' => v = fl 9221120237041090561#64 ∧ w' = w) := by
  refine enter (args := []) (n := 2) Tryz.func44 rfl rfl (Nat.le_of_ble_eq_true rfl) ?_
  refine C.seqK fun K1 hK1 => ?_
  refine C.region ?_
  refine O.asg ?_
  refine O.nil ?_
  refine hK1 _ _ ?_
  refine C.seqK fun K2 hK2 => ?_
  refine C.region ?_
  refine O.ext ext28 (args1 rfl) (run_fromBits (9221120237041090561#64)) ?_
  refine O.asg ?_
  refine O.nil ?_
  refine hK2 _ _ ?_
  refine C.ret ?_
  refine Outs.one rfl rfl ?_
  exact ⟨rfl, rfl⟩

theorem dmean_spec (v0 : Value) (l : List (BitVec 64)) (F : Nat → Prop) (w : World) (hl : Sl flE w F v0 l) :
    Ret Tryz.prog 29 #[v0] w (fun v w' => v = .tuple #[fl (Ds.meanV l), .int .i64 (Ds.meanN l)] ∧ Le w w') := by
  have hle := hl.le
  refine enter (args := [v0]) (n := 21) Tryz.func29 rfl rfl (Nat.le_of_ble_eq_true rfl) ?_
  refine C.seqK fun K1 hK1 => ?_
  refine C.region ?_
  refine O.asg ?_
  refine O.asg ?_
  refine O.nil ?_
  refine hK1 _ _ ?_
  refine C.seqK fun K2 hK2 => ?_
  refine C.block fun K3 hK3 => ?_
  refine C.seqK fun K4 hK4 => ?_
  refine C.region ?_
  refine O.mv ?_
  refine O.len Tryz.underlying37 rfl hl ?_
  refine O.gtrI rfl rfl ?_
  refine O.asg ?_
  refine O.nil ?_
  refine hK4 _ _ ?_
  refine C.condD rfl (fun c4 => ?_) (fun c4 => ?_)
  ·
    refine C.seqK fun K5 hK5 => ?_
    refine C.region ?_
    refine O.asg ?_
    refine O.asg ?_
    refine O.nil ?_
    refine hK5 _ _ ?_
    refine C.ret ?_
    refine Outs.two rfl rfl rfl ?_
    first
    | exact ⟨Ds.mean_long (by omega), (Le.refl _)⟩
    | exact ⟨Ds.mean_none (by omega), (Le.refl _)⟩
    | exact ⟨Ds.mean_some (by omega) (by omega) hdv, (Le.refl _)⟩
  ·
    refine C.seqK fun K6 hK6 => ?_
    refine C.region ?_
    refine O.mv ?_
    refine O.len Tryz.underlying37 rfl hl ?_
    refine O.eqlI rfl rfl ?_
    refine O.asg ?_
    refine O.nil ?_
    refine hK6 _ _ ?_
    refine C.condD rfl (fun c8 => ?_) (fun c8 => ?_)
    ·
      refine C.seqK fun K7 hK7 => ?_
      refine C.region ?_
      refine O.call Tryz.call44 (argsN) (mnan_spec _) ?_
      rintro v_12 w1 ⟨rfl, hw_⟩
      replace hw_ := hw_.symm
      subst hw_
      refine O.call Tryz.call35 (args1 rfl) (canon_spec _ _) ?_
      rintro v_13 w1 ⟨rfl, hw_⟩
      replace hw_ := hw_.symm
      subst hw_
      refine O.asg ?_
      refine O.asg ?_
      refine O.nil ?_
      refine hK7 _ _ ?_
      refine C.ret ?_
      refine Outs.two rfl rfl rfl ?_
      first
      | exact ⟨Ds.mean_long (by omega), (Le.refl _)⟩
      | exact ⟨Ds.mean_none (by omega), (Le.refl _)⟩
      | exact ⟨Ds.mean_some (by omega) (by omega) hdv, (Le.refl _)⟩
    ·
      refine C.skip ?_
      refine hK3 _ _ ?_
      refine hK2 _ _ ?_
      refine C.seqK fun K8 hK8 => ?_
      refine C.region ?_
      refine O.mv ?_
      refine O.call Tryz.call22 (args1 rfl) (fsum_spec _ l _ _ hl (by omega)) ?_
      rintro v_15 w1 ⟨e1, rfl⟩
      have z1 := e1.size
      refine O.mv ?_
      refine O.len Tryz.underlying37 rfl (hl.keep e1) ?_
      refine O.convIF Tryz.underlying3 Tryz.underlying22 rfl ?_
      refine O.quoF rfl rfl (fun r19 w2 e2 hf19 => ?_)
      have z2 := e2.size
      refine O.call Tryz.call35 (args1 rfl) (canon_spec _ _) ?_
      rintro v_20 w3 ⟨rfl, hw_⟩
      replace hw_ := hw_.symm
      subst hw_
      have hdv := Ds.canon_res hf19
      refine O.asg ?_
      refine O.asg ?_
      refine O.nil ?_
      refine hK8 _ _ ?_
      refine C.ret ?_
      refine Outs.two rfl rfl rfl ?_
      first
      | exact ⟨Ds.mean_long (by omega), (Ext.trans e1 e2)⟩
      | exact ⟨Ds.mean_none (by omega), (Ext.trans e1 e2)⟩
      | exact ⟨Ds.mean_some (by omega) (by omega) hdv, (Ext.trans e1 e2)⟩

theorem means_spec (v0 : Value) (l : List (BitVec 64)) (F : Nat → Prop) (m : BitVec 64) (e : Int) (w : World) (hl : Sl flE w F v0 l) (h1 : Ds.meanV l = m) (h2 : Ds.meanN l = e) :
    Ret Tryz.prog 19 #[v0, fl (m), .int .i64 (e)] w (fun v w' => v = .bool true ∧ Le w w') := by
  refine enter (args := [v0, fl (m), .int .i64 (e)]) (n := 24) Tryz.func19 rfl rfl (Nat.le_of_ble_eq_true rfl) ?_
  refine C.seqK fun K1 hK1 => ?_
  refine C.region ?_
  refine O.asg ?_
  refine O.nil ?_
  refine hK1 _ _ ?_
  refine C.seqK fun K2 hK2 => ?_
  refine C.region ?_
  refine O.mv ?_
  refine O.call Tryz.call29 (args1 rfl) (dmean_spec _ l _ _ hl) ?_
  rintro v_11 w1 ⟨rfl, e1⟩
  have z1 := e1.size
  refine O.mv ?_
  refine O.extract rfl rfl ?_
  refine O.extract rfl rfl ?_
  refine O.asg ?_
  refine O.asg ?_
  refine O.nil ?_
  refine hK2 _ _ ?_
  refine C.seqK fun K3 hK3 => ?_
  refine C.region ?_
  refine O.mv ?_
  refine O.ext ext30 (args1 rfl) (run_bitsOf _) ?_
  refine O.mv ?_
  refine O.ext ext30 (args1 rfl) (run_bitsOf _) ?_
  refine O.eqlU (m := 64) rfl rfl ?_
  refine O.cast (v' := .bool true) (congrArg Value.bool (by exact decide_eq_true h1)) ?_
  refine O.mv ?_
  refine O.yes rfl rfl ?_
  refine O.mv ?_
  refine O.yes rfl rfl ?_
  refine O.mv ?_
  refine O.yes rfl rfl ?_
  refine O.eqlI rfl rfl ?_
  refine O.cast (v' := .bool true) (congrArg Value.bool (by exact decide_eq_true h2)) ?_
  refine O.pickT rfl ?_
  refine O.asg ?_
  refine O.nil ?_
  refine hK3 _ _ ?_
  refine C.ret ?_
  refine Outs.one rfl rfl ?_
  exact ⟨rfl, e1⟩

end Go.Proofs.YtbadfphdniliaaaGreatDoor
end
section
/-
  The walks of discounts: ranks of few numbers. Conditions: slices as they lie in memory.
-/
namespace Go.Proofs.YtbadfphdniliaaaGreatDoor
open Go.Pn Go.RowKit Go.Proofs Go.Sort


theorem closR_go (l : List (BitVec 64)) (x y : Int) (hx : 0 ≤ x ∧ x < l.length) (hy : 0 ≤ y ∧ y < l.length) : Fl.cmp (Fl.canon (l[y.toNat]'(by omega))) (Fl.canon (l[x.toNat]'(by omega))) = Fl.cmp (Fl.canon (l.getD y.toNat 0#64)) (Fl.canon (l.getD x.toNat 0#64)) := by
  have e : ∀ i, ∀ h : i < l.length, l.getD i 0#64 = l[i] := fun i h => by rw [List.getD_eq_getElem?_getD, List.getElem?_eq_getElem h]; rfl
  rw [e _ (by omega), e _ (by omega)]

theorem closR_spec (b : Nat) (v0 : Value) (l : List (BitVec 64)) (F : Nat → Prop) (x y : Int) (w : World) (ho : Own w b 37 [v0]) (hl : Sl flE w F v0 l) (hx : 0 ≤ x ∧ x < l.length) (hy : 0 ≤ y ∧ y < l.length) :
    Ret Tryz.prog 48 #[.int .i64 (x), .int .i64 (y), .pointer (some ⟨b, 0, none⟩)] w (fun v w' => v = .int .i64 (Fl.cmp (Fl.canon (l.getD y.toNat 0#64)) (Fl.canon (l.getD x.toNat 0#64))) ∧ Le w w' ∧ w.drawn ≤ w'.drawn) := by
  refine enter (args := [.int .i64 (x), .int .i64 (y), .pointer (some ⟨b, 0, none⟩)]) (n := 17) Tryz.func48 rfl rfl (Nat.le_of_ble_eq_true rfl) ?_
  refine C.seqK fun K1 hK1 => ?_
  refine C.region ?_
  refine O.asg ?_
  refine O.nil ?_
  refine hK1 _ _ ?_
  refine C.seqK fun K2 hK2 => ?_
  refine C.drawD (by kernel_rfl) fun w1 e1 d1 => ?_
  have z1 := e1.size
  refine D.take (i := 0) rfl rfl rfl rfl (by kernel_rfl) (Le.refl _) ⟨_, rfl⟩ (fun w_ hw_ N_ hN => (O.loadO Tryz.isAgg37 rfl ((ho.keep e1).keep hw_) rfl (O.nil hN))) ?_
  refine D.take (i := 1) rfl rfl rfl rfl (by kernel_rfl) (Le.refl _) ⟨pure _, rfl⟩ (fun w_ hw_ N_ hN => (O.mv (O.nil hN))) ?_
  obtain ⟨a8, h8, hr8⟩ := Sl.at (i := y) (P := Tryz.prog) Tryz.underlying37 Tryz.sizeOf22 rfl (hl.keep e1) (by omega)
  refine D.take (i := 2) rfl rfl rfl rfl (by kernel_rfl) (Le.refl _) ⟨_, rfl⟩ (fun w_ hw_ N_ hN => (O.idxR rfl rfl hr8 (O.nil hN))) ?_
  refine D.take (i := 3) rfl rfl rfl rfl (by kernel_rfl) (Le.refl _) ⟨_, rfl⟩ (fun w_ hw_ N_ hN => (O.loadF Tryz.isAgg22 rfl (h8.keep hw_) (O.nil hN))) ?_
  refine D.take (i := 5) rfl rfl rfl rfl (by kernel_rfl) (Le.refl _) ⟨_, rfl⟩ (fun w_ hw_ N_ hN => (O.loadO Tryz.isAgg37 rfl ((ho.keep e1).keep hw_) rfl (O.nil hN))) ?_
  refine D.take (i := 6) rfl rfl rfl rfl (by kernel_rfl) (Le.refl _) ⟨pure _, rfl⟩ (fun w_ hw_ N_ hN => (O.mv (O.nil hN))) ?_
  obtain ⟨a13, h13, hr13⟩ := Sl.at (i := x) (P := Tryz.prog) Tryz.underlying37 Tryz.sizeOf22 rfl (hl.keep e1) (by omega)
  refine D.take (i := 7) rfl rfl rfl rfl (by kernel_rfl) (Le.refl _) ⟨_, rfl⟩ (fun w_ hw_ N_ hN => (O.idxR rfl rfl hr13 (O.nil hN))) ?_
  refine D.take (i := 8) rfl rfl rfl rfl (by kernel_rfl) (Le.refl _) ⟨_, rfl⟩ (fun w_ hw_ N_ hN => (O.loadF Tryz.isAgg22 rfl (h13.keep hw_) (O.nil hN))) ?_
  refine D.one (i := 4) rfl rfl (by kernel_rfl) ?_
  refine O.call Tryz.call35 (args1 rfl) (canon_spec _ _) ?_
  rintro v_10 w2 ⟨rfl, hw_⟩
  replace hw_ := hw_.symm
  subst hw_
  refine O.nil ⟨(Le.refl _), ?_⟩
  refine D.one (i := 9) rfl rfl (by kernel_rfl) ?_
  refine O.call Tryz.call35 (args1 rfl) (canon_spec _ _) ?_
  rintro v_15 w2 ⟨rfl, hw_⟩
  replace hw_ := hw_.symm
  subst hw_
  refine O.nil ⟨(Le.refl _), ?_⟩
  refine D.one (i := 10) rfl rfl (by kernel_rfl) ?_
  refine O.call Tryz.call23 (args2 rfl rfl) (cmp_spec _ _ _) ?_
  rintro v_16 w2 ⟨rfl, hw_⟩
  replace hw_ := hw_.symm
  subst hw_
  refine O.nil ⟨(Le.refl _), ?_⟩
  refine D.take (i := 11) rfl rfl rfl rfl (by kernel_rfl) (Le.refl _) ⟨pure _, rfl⟩ (fun w_ hw_ N_ hN => (O.asg (O.nil hN))) ?_
  refine D.done (by kernel_rfl) ?_
  refine hK2 _ _ ?_
  refine C.ret ?_
  refine Outs.one rfl rfl ?_
  exact ⟨congrArg (Value.int .i64) (closR_go l x y hx hy), e1, by omega⟩


theorem swoC (l : List (BitVec 64)) (n : Nat) : Go.Sort.SWO (ltOf (Ds.cfR l n)) where
  irrefl x := by unfold ltOf Ds.cfR; exact decide_eq_false (by rw [Fl.cmp_self]; decide)
  trans x y z h1 h2 := by
    unfold ltOf Ds.cfR at *
    simp only [decide_eq_true_eq] at *
    rw [Fl.cmp_lt_iff] at *
    rw [BitVec.lt_def] at *
    omega
  ntrans x y z h1 h2 := by
    unfold ltOf Ds.cfR at *
    simp only [decide_eq_false_iff_not] at *
    rw [Fl.cmp_lt_iff] at *
    rw [BitVec.lt_def] at *
    omega
def rankS (l : List (BitVec 64)) (m : Nat) : List (Fin (m + 1)) := (Go.Sort.insertionSort (ltOf (Ds.cfR l (m + 1))) (List.finRange (m + 1)).toArray 0 (m + 1)).toList
theorem rankS_size (l : List (BitVec 64)) (m : Nat) : (Go.Sort.insertionSort (ltOf (Ds.cfR l (m + 1))) (List.finRange (m + 1)).toArray 0 (m + 1)).size = m + 1 := by
  have h := Go.Sort.insertionSort_holds (lt := ltOf (Ds.cfR l (m + 1))) (swoC l (m + 1)) (List.finRange (m + 1)).toArray 0 (m + 1) (Nat.zero_le _) (by simp)
  obtain ⟨⟨hd, _, _⟩, _⟩ := h
  rw [hd]
  simp
theorem insR_spec (g cap b m : Nat) (v0 : Value) (l : List (BitVec 64)) (F : Nat → Prop) (B : Nat) (w : World) (h : OwnF Dt.intF 3 B w (.slice (some ⟨g, 0, none⟩) (m + 1) cap) (Ds.fillR (m + 1) (m + 1))) (hlm : l.length = m + 1) (hm : m ≤ 1000000) (ho : Own w b 37 [v0]) (hl : Sl flE w F v0 l) (hbg : b ≠ g) (hFg : ¬ F g) :
    Ret Tryz.prog 75 #[.slice (some ⟨g, 0, none⟩) (m + 1) cap, .int .i64 0, .int .i64 ((m + 1 : Nat) : Int), .func (.func 48) #[] #[.pointer (some ⟨b, 0, none⟩)]] w (fun r w' => r = .tuple #[] ∧ OwnF Dt.intF 3 B w' (.slice (some ⟨g, 0, none⟩) (m + 1) cap) ((rankS l m).map fun i => (i.val : Int)) ∧ Ext (fun k => k = g) w w') := by
  have h0 : OwnF (Ds.iF (m + 1)) 3 B w (.slice (some ⟨g, 0, none⟩) (List.finRange (m + 1)).length cap) (List.finRange (m + 1)) := by
    rw [List.length_finRange]
    exact h.as rfl (Ds.flat_fill (m + 1)) (by rw [Ds.fillR_length (Nat.le_refl _)]; simp)
  obtain ⟨hH, hlt⟩ := h0.holds (enc := Ds.encI (m + 1)) rfl (fun _ => rfl)
  have hsz : (List.finRange (m + 1)).toArray.size = m + 1 := by simp
  have eg : ∀ args w, (callFunc 48 args).run Tryz.prog w = .ok (.enter 48 args) w := enters_of Tryz.func48 (by kernel_rfl) rfl
  have hcmp : CmpLays1 Tryz.prog 48 #[.pointer (some ⟨b, 0, none⟩)] (Ds.encI (m + 1)) (Ds.cfR l (m + 1)) g 0 (List.finRange (m + 1)).toArray.size w := fun q os dk hs x y => by
    obtain ⟨_, hx⟩ := h0.sorted (enc := Ds.encI (m + 1)) rfl (fun _ => rfl) (d := dk) (by rw [hs, hsz]; simp) q os
    refine (closR_spec b v0 l F (x.val : Int) (y.val : Int) _ (ho.keepM hx (fun hk => hbg hk)) (hl.keepM hx (fun k hk hk2 => hFg (hk2 ▸ hk))) (by have := x.isLt; omega) (by have := y.isLt; omega)).calls.mono ?_
    rintro e w' ⟨v, he, hv, hle, hd⟩
    exact ⟨by rw [he, hv]; rfl, grow_of_le hle hd⟩
  have hcon := Tryz.insertionSortCmpFunc_s_f75 (Ds.encI (m + 1)) (Ds.cfR l (m + 1)) 48 #[.pointer (some ⟨b, 0, none⟩)] g 0 cap 0 (m + 1) (List.finRange (m + 1)).toArray (List.finRange (m + 1)).toArray w w eg hcmp ⟨fun _ => rfl, hH, hlt⟩ rfl (SW.start hH) (Nat.zero_le _) (by rw [hsz]; exact Nat.le_refl _) (by rw [hsz]; omega)
  rw [hsz] at hcon
  refine Ret.of hcon ?_
  rintro e w' ⟨rfl, q, os, rfl⟩
  obtain ⟨h1, h2⟩ := h0.sorted (enc := Ds.encI (m + 1)) rfl (fun _ => rfl) (d := Go.Sort.insertionSort (ltOf (Ds.cfR l (m + 1))) (List.finRange (m + 1)).toArray 0 (m + 1)) (by rw [rankS_size]; simp) q os
  rw [List.length_finRange] at h1
  refine ⟨_, rfl, rfl, ?_, h2⟩
  exact h1.as rfl (Ds.flat_val (rankS l m)) (by simp [rankS])

theorem stbR_spec (g cap b m : Nat) (v0 : Value) (l : List (BitVec 64)) (F : Nat → Prop) (B : Nat) (w : World) (h : OwnF Dt.intF 3 B w (.slice (some ⟨g, 0, none⟩) (m + 1) cap) (Ds.fillR (m + 1) (m + 1))) (hlm : l.length = m + 1) (hm : m ≤ 18) (ho : Own w b 37 [v0]) (hl : Sl flE w F v0 l) (hbg : b ≠ g) (hFg : ¬ F g) :
    Ret Tryz.prog 64 #[.slice (some ⟨g, 0, none⟩) (m + 1) cap, .int .i64 (((m + 1 : Nat) : Int)), .func (.func 48) #[] #[.pointer (some ⟨b, 0, none⟩)]] w (fun v w' => v = .tuple #[] ∧ OwnF Dt.intF 3 B w' (.slice (some ⟨g, 0, none⟩) (m + 1) cap) ((rankS l m).map fun i => (i.val : Int)) ∧ Ext (fun k => k = g) w w') := by
  refine enter (args := [.slice (some ⟨g, 0, none⟩) (m + 1) cap, .int .i64 (((m + 1 : Nat) : Int)), .func (.func 48) #[] #[.pointer (some ⟨b, 0, none⟩)]]) (n := 63) Tryz.func64 rfl rfl (Nat.le_of_ble_eq_true rfl) ?_
  refine C.seqK fun K1 hK1 => ?_
  refine C.region ?_
  refine O.asg ?_
  refine O.nil ?_
  refine hK1 _ _ ?_
  refine C.seqK fun K2 hK2 => ?_
  refine C.region ?_
  refine O.mv ?_
  refine O.asg ?_
  refine O.asg ?_
  refine O.nil ?_
  refine hK2 _ _ ?_
  refine C.seqK fun K3 hK3 => ?_
  refine C.block fun K4 hK4 => ?_
  refine C.loop0 (σ := Nat) (fun f0 w0 z f w => f 7 = .int .i64 (0) ∧ f 8 = .int .i64 (20) ∧ f 0 = f0 0 ∧ f 1 = f0 1 ∧ f 2 = f0 2 ∧ f 6 = f0 6 ∧ w = w0) (fun z => z) 0 ?_ ?_
  ·
    exact ⟨rfl, rfl, rfl, rfl, rfl, rfl, rfl⟩
  ·
    rintro z f_1 wx ⟨s7_1, s8_1, s0_1, s1_1, s2_1, s6_1, rfl⟩
    refine C.seqK fun K5 hK5 => ?_
    refine C.seqK fun K6 hK6 => ?_
    refine C.region ?_
    refine O.mv ?_
    refine O.mv ?_
    refine O.leqI s8_1 s1_1 ?_
    refine O.cast (v' := .bool false) (congrArg Value.bool (by exact decide_eq_false (by omega))) ?_
    refine O.nil ?_
    refine hK6 _ _ ?_
    refine C.condF rfl ?_
    refine C.exit ?_
    refine hK4 _ _ ?_
    refine hK3 _ _ ?_
    refine C.seqK fun K7 hK7 => ?_
    refine C.region ?_
    refine O.mv ?_
    refine O.mv ?_
    refine O.mv ?_
    refine O.mv ?_
    refine O.call Tryz.call75 (args4 s0_1 s7_1 s1_1 s2_1) (insR_spec g cap b m v0 l F B _ h hlm (by omega) ho hl hbg hFg) ?_
    rintro v_27 w1 ⟨rfl, hsv27, e1⟩
    have z1 := e1.size
    refine O.nil ?_
    refine hK7 _ _ ?_
    refine C.block fun K8 hK8 => ?_
    refine C.loop0 (σ := Nat) (fun f0 w0 z f w => f 6 = .int .i64 (20) ∧ f 0 = f0 0 ∧ f 1 = f0 1 ∧ f 2 = f0 2 ∧ w = w0) (fun z => z) 0 ?_ ?_
    ·
      exact ⟨s6_1, rfl, rfl, rfl, rfl⟩
    ·
      rintro z f_2 wx ⟨s6_2, s0_2, s1_2, s2_2, rfl⟩
      refine C.seqK fun K9 hK9 => ?_
      refine C.seqK fun K10 hK10 => ?_
      refine C.region ?_
      refine O.mv ?_
      refine O.mv ?_
      refine O.lssI s6_2 (Eq.trans s1_2 s1_1) ?_
      refine O.cast (v' := .bool false) (congrArg Value.bool (by exact decide_eq_false (by omega))) ?_
      refine O.nil ?_
      refine hK10 _ _ ?_
      refine C.condF rfl ?_
      refine C.exit ?_
      refine hK8 _ _ ?_
      refine Outs.none rfl ?_
      exact ⟨rfl, hsv27, (Ext.new (Ext.refl _ _) e1 (by intro i hi hk; first | exact hk.elim | ((try dsimp only at hk); (try dsimp only); omega)))⟩

theorem stfR_spec (g cap b m : Nat) (v0 : Value) (l : List (BitVec 64)) (F : Nat → Prop) (B : Nat) (w : World) (h : OwnF Dt.intF 3 B w (.slice (some ⟨g, 0, none⟩) (m + 1) cap) (Ds.fillR (m + 1) (m + 1))) (hlm : l.length = m + 1) (hm : m ≤ 18) (ho : Own w b 37 [v0]) (hl : Sl flE w F v0 l) (hbg : b ≠ g) (hFg : ¬ F g) :
    Ret Tryz.prog 47 #[.slice (some ⟨g, 0, none⟩) (m + 1) cap, .func (.func 48) #[] #[.pointer (some ⟨b, 0, none⟩)]] w (fun v w' => v = .tuple #[] ∧ OwnF Dt.intF 3 B w' (.slice (some ⟨g, 0, none⟩) (m + 1) cap) ((rankS l m).map fun i => (i.val : Int)) ∧ Ext (fun k => k = g) w w') := by
  refine enter (args := [.slice (some ⟨g, 0, none⟩) (m + 1) cap, .func (.func 48) #[] #[.pointer (some ⟨b, 0, none⟩)]]) (n := 9) Tryz.func47 rfl rfl (Nat.le_of_ble_eq_true rfl) ?_
  refine C.region ?_
  refine O.mv ?_
  refine O.mv ?_
  refine O.lenL Tryz.underlying43 rfl ?_
  refine O.cast (v' := .int .i64 ((m + 1 : Nat) : Int)) rfl ?_
  refine O.mv ?_
  refine O.call Tryz.call64 (args3 rfl rfl rfl) (stbR_spec g cap b m v0 l F B _ h hlm hm ho hl hbg hFg) ?_
  rintro v_8 w1 ⟨rfl, hsv8, e1⟩
  have z1 := e1.size
  refine O.nil ?_
  refine Outs.none rfl ?_
  exact ⟨rfl, hsv8, (Ext.new (Ext.refl _ _) e1 (by intro i hi hk; first | exact hk.elim | ((try dsimp only at hk); (try dsimp only); omega)))⟩


theorem sortR_spec (v : Value) (b m : Nat) (v0 : Value) (l : List (BitVec 64)) (F : Nat → Prop) (B : Nat) (w : World) (h : OwnF Dt.intF 3 B w v (Ds.fillR (m + 1) (m + 1))) (hlm : l.length = m + 1) (hm : m ≤ 18) (ho : Own w b 37 [v0]) (hl : Sl flE w F v0 l) (hbg : ∀ k, bk v k → b ≠ k) (hFg : ∀ k, bk v k → ¬ F k) :
    Ret Tryz.prog 47 #[v, .func (.func 48) #[] #[.pointer (some ⟨b, 0, none⟩)]] w (fun r w' => r = .tuple #[] ∧ OwnF Dt.intF 3 B w' v ((rankS l m).map fun i => (i.val : Int)) ∧ Ext (bk v) w w') := by
  have hfl := Ds.fillR_length (Nat.le_refl (m + 1))
  obtain ⟨g, cap, hv⟩ := OwnF.ptr h (by omega)
  rw [hfl] at hv
  subst hv
  exact stfR_spec g cap b m v0 l F B w h hlm hm ho hl (hbg g rfl) (hFg g rfl)

set_option maxHeartbeats 1000000 in
theorem drank_spec (p0 : Option Addr × Nat × Nat) (l : List (BitVec 64)) (F : Nat → Prop) (m : Nat) (w : World) (hl : Sl flE w F (slv p0) l) (hF : ∀ k, F k → k < w.heap.size) (hlm : l.length = m + 1) (hm : m ≤ 18) :
    Ret Tryz.prog 34 #[slv p0] w (fun v w' => Le w w' ∧ ∃ u, v = .tuple #[u, .int .i64 0] ∧ OwnF Dt.intF 3 w.heap.size w' u ((rankS l m).map fun i => (i.val : Int))) := by
  have _hF9 := hF
  obtain ⟨ie3, ti3, ts3, tb3, tz3⟩ := inf3
  refine enter (args := [slv p0]) (n := 26) Tryz.func34 rfl rfl (Nat.le_of_ble_eq_true rfl) ?_
  refine C.seqK fun K1 hK1 => ?_
  refine C.region ?_
  refine O.box (v := slv p0) rfl (fun b1 w1 hb1 hz1 e1 => ?_)
  have z1 := e1.size
  have h1 := hz1.own
  have hl1 := h1.lt
  refine O.asg ?_
  refine O.asg ?_
  refine O.nil ?_
  refine hK1 _ _ ?_
  refine C.seqK fun K2 hK2 => ?_
  refine C.seqK fun K3 hK3 => ?_
  refine C.region ?_
  refine O.loadO Tryz.isAgg37 rfl h1 rfl ?_
  refine O.len Tryz.underlying37 rfl (hl.keep e1) ?_
  refine O.gtrI rfl rfl ?_
  refine O.cast (v' := .bool false) (congrArg Value.bool (by exact decide_eq_false (by omega))) ?_
  refine O.nil ?_
  refine hK3 _ _ ?_
  refine C.condF rfl ?_
  refine C.skip ?_
  refine hK2 _ _ ?_
  refine C.seqK fun K4 hK4 => ?_
  refine C.region ?_
  refine O.loadO Tryz.isAgg37 rfl h1 rfl ?_
  refine O.len Tryz.underlying37 rfl (hl.keep e1) ?_
  refine O.mkF (G := Dt.intF) (zx := (0 : Int)) Tryz.underlying43 ti3 tz3 ts3 rfl rfl rfl (by rw [tb3]; omega) (by unfold maxLen; omega) (Nat.le_refl _) (fun b11 w2 hb11 hz11 ho11 e2 => ?_)
  have z2 := e2.size
  have ho11s := ho11.sl
  have ho11z : OwnF Dt.intF 3 w1.heap.size w2 (.slice (some ⟨b11, 0, none⟩) l.length l.length) (Ds.fillR (m + 1) 0) := by rw [Ds.fillR_zero, ← hlm]; exact ho11
  refine O.asg ?_
  refine O.nil ?_
  refine hK4 _ _ ?_
  refine C.seqK fun K5 hK5 => ?_
  refine C.seqK fun K6 hK6 => ?_
  refine C.region ?_
  refine O.mv ?_
  refine O.lenL Tryz.underlying43 rfl ?_
  refine O.mv ?_
  refine O.nil ?_
  refine hK6 _ _ ?_
  refine C.block fun K7 hK7 => ?_
  refine C.loop0 (σ := Nat) (fun f0 w0 k f w => f 14 = .int .i64 ((k : Int)) ∧ f 1 = f0 1 ∧ f 2 = f0 2 ∧ f 3 = f0 3 ∧ f 4 = f0 4 ∧ f 13 = f0 13 ∧ Ext (fun i => i = b11) w0 w ∧ OwnF Dt.intF 3 w1.heap.size w (.slice (some ⟨b11, 0, none⟩) l.length l.length) (Ds.fillR (m + 1) k) ∧ k ≤ m + 1) (fun k => m + 1 - k) 0 ?_ ?_
  ·
    refine ⟨rfl, rfl, rfl, rfl, rfl, rfl, Ext.refl _ _, ho11z, ?_⟩
    exact Nat.zero_le _
  ·
    rintro k f_1 w3 ⟨s14_1, s1_1, s2_1, s3_1, s4_1, s13_1, e_1, r0_1, hk⟩
    have z_1 := e_1.size
    have r0_1s := r0_1.sl
    refine C.seqK fun K8 hK8 => ?_
    refine C.region ?_
    refine O.lssI s14_1 s13_1 ?_
    refine O.nil ?_
    refine hK8 _ _ ?_
    refine C.seqK fun K9 hK9 => ?_
    refine C.condD rfl (fun c15 => ?_) (fun c15 => ?_)
    ·
      refine C.skip ?_
      refine hK9 _ _ ?_
      refine C.seqK fun K10 hK10 => ?_
      refine C.block fun K11 hK11 => ?_
      refine C.seqK fun K12 hK12 => ?_
      refine C.region ?_
      refine O.mv ?_
      refine O.asg ?_
      refine O.nil ?_
      refine hK12 _ _ ?_
      refine C.region ?_
      refine O.mv ?_
      refine O.mv ?_
      refine O.mv ?_
      obtain ⟨g20, cap20, hv20⟩ := OwnF.ptr r0_1 (by rw [Ds.fillR_length hk]; omega)
      have ho20 := r0_1
      rw [hv20] at ho20
      refine O.idxO Tryz.underlying43 Tryz.sizeOf3 (Eq.trans s4_1 hv20) s14_1 (by rw [Ds.fillR_length hk]; omega) ?_
      refine O.storeF (G := Dt.intF) ((k : Int)) Tryz.sizeOf3 rfl (fun _ => rfl) rfl rfl s14_1 ho20 (by rw [Ds.fillR_length hk]; omega) (fun w4 hs4 e4 z4 => ?_)
      rw [← hv20] at hs4
      replace e4 : Ext (fun i => i = b11) w3 w4 := e4.mono (fun k _ hk => by have h9 := (Value.slice.inj hv20).1; cases h9; exact hk)
      simp only [Int.toNat_natCast, Nat.zero_add, Nat.mul_one] at hs4
      refine O.nil ?_
      refine hK11 _ _ ?_
      refine hK10 _ _ ?_
      refine C.region ?_
      refine O.addI s14_1 rfl (by unfold InI; omega) ?_
      refine O.mv ?_
      refine O.nil ?_
      refine ⟨k + 1, ⟨rfl, s1_1, s2_1, s3_1, s4_1, s13_1, (Ext.trans e_1 (e4)), (by rw [← Ds.fillR_set (show k < m + 1 by omega)]; exact hs4), ?_⟩, by first | omega | (simp only []; omega)⟩
      omega
    ·
      obtain rfl : k = m + 1 := by omega
      refine C.exit ?_
      refine hK7 _ _ ?_
      refine hK5 _ _ ?_
      refine C.seqK fun K13 hK13 => ?_
      refine C.region ?_
      refine O.mv ?_
      refine O.makeF (v1 := []) (v2 := [.pointer (some ⟨b1, 0, none⟩)]) rfl (args1 s1_1) ?_
      refine O.call Tryz.call47 (args2 s4_1 rfl) (sortR_spec (.slice (some ⟨b11, 0, none⟩) l.length l.length) b1 m (slv p0) l F _ _ r0_1 hlm hm ((h1.keep e2).keepM e_1 (by intro h; (try dsimp only at h); omega)) (hl.keep (Ext.new (Ext.trans e1 e2) e_1 (by rintro i hi rfl; omega))) (fun k hk => by have := (r0_1).bk_ge k hk; omega) (fun k hk hk2 => by have := (r0_1).bk_ge k hk; have := hF k hk2; omega)) ?_
      rintro v_24 w5 ⟨rfl, hsv24, e5⟩
      have z5 := e5.size
      refine O.nil ?_
      refine hK13 _ _ ?_
      refine C.seqK fun K14 hK14 => ?_
      refine C.region ?_
      refine O.mv ?_
      refine O.asg ?_
      refine O.asg ?_
      refine O.nil ?_
      refine hK14 _ _ ?_
      refine C.ret ?_
      refine Outs.two rfl s4_1 rfl ?_
      exact ⟨(Ext.new (Ext.new (Ext.trans e1 e2) e_1 (by rintro i hi rfl; omega)) e5 (by intro i hi h; have := (r0_1).bk_ge i h; omega)), _, rfl, (hsv24).low (by omega)⟩

end Go.Proofs.YtbadfphdniliaaaGreatDoor
end
section
/-
  What the rows' listed variables and arguments give the walks; a world that holds the list.
-/
namespace Go.Proofs.YtbadfphdniliaaaGreatDoor
open Go.Pn Go.ChangeShapes Go.WideShapes Go.ChangeAt Go.RowKit
theorem pOwn : ownKnob Tryz.prog.godebug = none := by kernel_rfl
theorem pLaidOut : laidOutB Tryz.prog = true := by kernel_rfl
theorem opensRule (W : World) : Opens Tryz.prog W Ds.ruleF.enc (fun _ => True) 24 :=
  (Opens.struct3 Tryz.underlying24 (Opens.str Tryz.underlying9 (by kernel_rfl)) (Opens.int Tryz.underlying3 (by kernel_rfl)) (Opens.f64 Tryz.underlying22 (by kernel_rfl)) rfl rfl rfl (by kernel_rfl)).imp rfl fun cs d h hq => by
    obtain ⟨a, b, rfl, ha, c, e, rfl, hb, he⟩ := h
    refine ⟨⟨d.1, d.2.1, d.2.2, hq.1⟩, ?_, trivial⟩
    rw [show a = [Go.Pn.str d.1] from ha, show c = [.int .i64 d.2.1] from hb, show e = [fl d.2.2] from he]
    rfl
set_option maxRecDepth 100000 in
theorem rules_of {W : World} {H : Type} {enc : TypeId × Value → H} {base : Nat} {v : Value} {d : DataW H} {p : List MemPlace} (hval : Value.okWide Tryz.prog W .any base 32 v) (h : DataW.Trod enc Tryz.prog W 0 (fun _ => true) true 32 v d p) : ∃ l : List Ds.Rule, Sl Ds.ruleF.enc W (fun k => k < W.heap.size) v l := by
  obtain ⟨l, h1, _⟩ := arg_slice (opensRule W) Tryz.underlying32 (by kernel_rfl) (by decide) hval h
  exact ⟨l, h1⟩
set_option maxRecDepth 100000 in
theorem fls_of {W : World} {H : Type} {enc : TypeId × Value → H} {base : Nat} {v : Value} {d : DataW H} {p : List MemPlace} (hval : Value.okWide Tryz.prog W .any base 37 v) (h : DataW.Trod enc Tryz.prog W 0 (fun _ => true) true 37 v d p) : ∃ l : List (BitVec 64), Sl flE W (fun k => k < W.heap.size) v l := by
  obtain ⟨l, h1, _⟩ := arg_slice (Opens.f64 (W := W) Tryz.underlying22 (by kernel_rfl)) Tryz.underlying37 (by kernel_rfl) (by decide) hval h
  exact ⟨l, h1⟩
/-- The library's variable. -/
theorem mx_of {W : World} (h : W.ShapedOpen Tryz.prog) : Mx W := ⟨Tryz.laysM144.s1_3 W h⟩
def pFlat : DataW Unit → List Value
  | .agg l => l.flatMap fun
    | .lit (.int k n) => [Value.int k n]
    | .agg l2 => l2.map fun
      | .lit (.int k n) => Value.int k n
      | _ => .nilIface
    | _ => [.nilIface]
  | _ => []
def pPut (h : Array Obj) (g : Nat) (cs : List Value) : Array Obj := h.modify g fun
  | .cells _ t frozen => .cells cs.toArray t frozen
  | o => o
noncomputable def pWorld (os : Os) : World :=
  { World.holding Tryz.prog os ⟨#[], #[], []⟩ with heap := (pPut (pPut (World.holding Tryz.prog os ⟨#[], #[], []⟩).heap 3 (pFlat Rows.laid_unicode_utf8_acceptRanges)) 2 (pFlat Rows.laid_unicode_utf8_first)) }
set_option maxRecDepth 100000 in
theorem pMet (os : Os) (args : Array Value) : laidMet Tryz.prog Rows.discountAppliesRow.laid ((pWorld os).forCall (fun _ _ => 0) ⟨#[], args, []⟩).memory :=
  laidMet_of_run' 8 (by kernel_rfl) (by kernel_rfl)
end Go.Proofs.YtbadfphdniliaaaGreatDoor
end
section
/-
  The walks of discounts: what is known; the laws of prices and of the best rule. Conditions: what the library's variable holds; slices as they lie in memory.
-/
namespace Go.Proofs.YtbadfphdniliaaaGreatDoor
open Go.Pn Go.RowKit Go.Proofs
attribute [local irreducible] O C D


def rule1 : Ds.Rule := ⟨[109, 97, 110, 121], 20, 4602678819172646912#64, by decide⟩
def rule2 : Ds.Rule := ⟨[115, 111, 109, 101], 5, 4604930618986332160#64, by decide⟩
def rule3 : Ds.Rule := ⟨[97, 110, 121], 1, 4604930618986332160#64, by decide⟩
def rule4 : Ds.Rule := ⟨[104, 97, 108, 102], 1, 4602678819172646912#64, by decide⟩

theorem csign_spec (w : World) :
    Ret Tryz.prog 25 #[fl (0#64), fl (13830554455654793216#64)] w (fun v w' => v = fl 9223372036854775808#64 ∧ w' = w) := by
  refine enter (args := [fl (0#64), fl (13830554455654793216#64)]) (n := 13) Tryz.func25 rfl rfl (Nat.le_of_ble_eq_true rfl) ?_
  refine C.seqK fun K1 hK1 => ?_
  refine C.region ?_
  refine O.asg ?_
  refine O.nil ?_
  refine hK1 _ _ ?_
  refine C.seqK fun K2 hK2 => ?_
  refine C.region ?_
  refine O.mv ?_
  refine O.ext ext30 (args1 rfl) (run_bitsOf _) ?_
  refine O.andNotU (m := 64) (b := 9223372036854775808#64) rfl rfl rfl rfl ?_
  refine O.mv ?_
  refine O.ext ext30 (args1 rfl) (run_bitsOf _) ?_
  refine O.andU (m := 64) (b := 9223372036854775808#64) rfl rfl rfl rfl ?_
  refine O.orU (m := 64) rfl rfl rfl rfl ?_
  refine O.ext ext28 (args1 rfl) (run_fromBits _) ?_
  refine O.asg ?_
  refine O.nil ?_
  refine hK2 _ _ ?_
  refine C.ret ?_
  refine Outs.one rfl rfl ?_
  exact ⟨congrArg fl (by decide), rfl⟩

theorem minf_p_spec (w : World) :
    Ret Tryz.prog 33 #[.int .i64 (1)] w (fun v w' => v = fl 9218868437227405312#64 ∧ w' = w) := by
  refine enter (args := [.int .i64 (1)]) (n := 8) Tryz.func33 rfl rfl (Nat.le_of_ble_eq_true rfl) ?_
  refine C.seqK fun K1 hK1 => ?_
  refine C.region ?_
  refine O.asg ?_
  refine O.nil ?_
  refine hK1 _ _ ?_
  refine C.seqK fun K2 hK2 => ?_
  refine C.region ?_
  refine O.asg ?_
  refine O.nil ?_
  refine hK2 _ _ ?_
  refine C.seqK fun K3 hK3 => ?_
  refine C.seqK fun K4 hK4 => ?_
  refine C.region ?_
  refine O.mv ?_
  refine O.geqI rfl rfl ?_
  refine O.cast (v' := .bool true) rfl ?_
  refine O.nil ?_
  refine hK4 _ _ ?_
  refine C.condT rfl ?_
  refine C.region ?_
  refine O.asg ?_
  refine O.nil ?_
  refine hK3 _ _ ?_
  refine C.seqK fun K5 hK5 => ?_
  refine C.region ?_
  refine O.mv ?_
  refine O.ext ext28 (args1 rfl) (run_fromBits (9218868437227405312#64)) ?_
  refine O.asg ?_
  refine O.nil ?_
  refine hK5 _ _ ?_
  refine C.ret ?_
  refine Outs.one rfl rfl ?_
  exact ⟨rfl, rfl⟩

theorem minf_n_spec (w : World) :
    Ret Tryz.prog 33 #[.int .i64 (-1)] w (fun v w' => v = fl 18442240474082181120#64 ∧ w' = w) := by
  refine enter (args := [.int .i64 (-1)]) (n := 8) Tryz.func33 rfl rfl (Nat.le_of_ble_eq_true rfl) ?_
  refine C.seqK fun K1 hK1 => ?_
  refine C.region ?_
  refine O.asg ?_
  refine O.nil ?_
  refine hK1 _ _ ?_
  refine C.seqK fun K2 hK2 => ?_
  refine C.region ?_
  refine O.asg ?_
  refine O.nil ?_
  refine hK2 _ _ ?_
  refine C.seqK fun K3 hK3 => ?_
  refine C.seqK fun K4 hK4 => ?_
  refine C.region ?_
  refine O.mv ?_
  refine O.geqI rfl rfl ?_
  refine O.cast (v' := .bool false) rfl ?_
  refine O.nil ?_
  refine hK4 _ _ ?_
  refine C.condF rfl ?_
  refine C.region ?_
  refine O.asg ?_
  refine O.nil ?_
  refine hK3 _ _ ?_
  refine C.seqK fun K5 hK5 => ?_
  refine C.region ?_
  refine O.mv ?_
  refine O.ext ext28 (args1 rfl) (run_fromBits (18442240474082181120#64)) ?_
  refine O.asg ?_
  refine O.nil ?_
  refine hK5 _ _ ?_
  refine C.ret ?_
  refine Outs.one rfl rfl ?_
  exact ⟨rfl, rfl⟩

theorem ranksS_spec (p0 : Option Addr × Nat × Nat) (l : List (BitVec 64)) (F : Nat → Prop) (v1 : Value) (ws : List Int) (F2 : Nat → Prop) (m : Nat) (w : World) (hl : Sl flE w F (slv p0) l) (hF : ∀ k, F k → k < w.heap.size) (hw : Sl Dt.intF.enc w F2 v1 ws) (hlm : l.length = m + 1) (hm : m ≤ 18) (hr : ((rankS l m).map fun i => (i.val : Int)) = ws) :
    Ret Tryz.prog 20 #[slv p0, v1, .int .i64 (0)] w (fun v w' => v = .bool true ∧ Le w w') := by
  subst hr
  have hwl := hw.le
  refine enter (args := [slv p0, v1, .int .i64 (0)]) (n := 40) Tryz.func20 rfl rfl (Nat.le_of_ble_eq_true rfl) ?_
  refine C.seqK fun K1 hK1 => ?_
  refine C.region ?_
  refine O.asg ?_
  refine O.nil ?_
  refine hK1 _ _ ?_
  refine C.seqK fun K2 hK2 => ?_
  refine C.region ?_
  refine O.mv ?_
  refine O.call Tryz.call34 (args1 rfl) (drank_spec p0 l F m _ hl (fun j hj => by have q1 := hF j hj; omega) hlm hm) ?_
  rintro v_12 w1 ⟨e1, uv12, rfl, h12⟩
  have z1 := e1.size
  have h12s := h12.sl
  refine O.mv ?_
  refine O.extract rfl rfl ?_
  refine O.extract rfl rfl ?_
  refine O.asg ?_
  refine O.asg ?_
  refine O.nil ?_
  refine hK2 _ _ ?_
  refine C.seqK fun K3 hK3 => ?_
  refine C.seqK fun K4 hK4 => ?_
  refine C.region ?_
  refine O.mv ?_
  refine O.len Tryz.underlying43 rfl h12s ?_
  refine O.mv ?_
  refine O.len Tryz.underlying43 rfl (hw.keep e1) ?_
  refine O.neqI rfl rfl ?_
  refine O.cast (v' := .bool false) (congrArg Value.bool (by exact decide_eq_false (fun h => h rfl))) ?_
  refine O.mv ?_
  refine O.yes rfl rfl ?_
  refine O.mv ?_
  refine O.yes rfl rfl ?_
  refine O.mv ?_
  refine O.yes rfl rfl ?_
  refine O.neqI rfl rfl ?_
  refine O.cast (v' := .bool false) (congrArg Value.bool (by exact decide_eq_false (fun h => h rfl))) ?_
  refine O.pickF rfl ?_
  refine O.nil ?_
  refine hK4 _ _ ?_
  refine C.condF rfl ?_
  refine C.skip ?_
  refine hK3 _ _ ?_
  refine C.seqK fun K5 hK5 => ?_
  refine C.seqK fun K6 hK6 => ?_
  refine C.region ?_
  refine O.asg ?_
  refine O.nil ?_
  refine hK6 _ _ ?_
  refine C.block fun K7 hK7 => ?_
  refine C.loop0 (σ := Nat) (fun f0 w0 k f w => f 9 = .int .i64 (k) ∧ f 1 = f0 1 ∧ f 7 = f0 7 ∧ Le w0 w ∧ k ≤ ((rankS l m).map fun i => (i.val : Int)).length) (fun k => ((rankS l m).map fun i => (i.val : Int)).length - k) 0 ?_ ?_
  ·
    refine ⟨rfl, rfl, rfl, Le.refl _, ?_⟩
    exact Nat.zero_le _
  ·
    rintro k f_1 w2 ⟨s9_1, s1_1, s7_1, e_1, hk⟩
    have z_1 := e_1.size
    refine C.seqK fun K8 hK8 => ?_
    refine C.seqK fun K9 hK9 => ?_
    refine C.region ?_
    refine O.mv ?_
    refine O.mv ?_
    refine O.len Tryz.underlying43 s7_1 (h12s.keep e_1) ?_
    refine O.lssI s9_1 rfl ?_
    refine O.nil ?_
    refine hK9 _ _ ?_
    refine C.condD rfl (fun c28 => ?_) (fun c28 => ?_)
    ·
      have hk2 : k < ((rankS l m).map fun i => (i.val : Int)).length := by omega
      refine C.skip ?_
      refine hK8 _ _ ?_
      refine C.seqK fun K10 hK10 => ?_
      refine C.block fun K11 hK11 => ?_
      refine C.seqK fun K12 hK12 => ?_
      refine C.draw (by kernel_rfl) fun w3 e3 => ?_
      have z3 := e3.size
      refine D.take (i := 0) rfl rfl rfl rfl (by kernel_rfl) (Le.refl _) ⟨pure _, rfl⟩ (fun w_ hw_ N_ hN => (O.mv (O.nil hN))) ?_
      refine D.take (i := 1) rfl rfl rfl rfl (by kernel_rfl) (Le.refl _) ⟨pure _, rfl⟩ (fun w_ hw_ N_ hN => (O.mv (O.nil hN))) ?_
      obtain ⟨a33, h33, hr33⟩ := Sl.at (i := (k : Int)) (P := Tryz.prog) Tryz.underlying43 Tryz.sizeOf3 rfl ((h12s.keep e_1).keep e3) (by omega)
      refine D.take (i := 2) rfl rfl rfl rfl (by kernel_rfl) (Le.refl _) ⟨_, rfl⟩ (fun w_ hw_ N_ hN => (O.idxR s7_1 s9_1 hr33 (O.nil hN))) ?_
      refine D.take (i := 3) rfl rfl rfl rfl (by kernel_rfl) (Le.refl _) ⟨_, rfl⟩ (fun w_ hw_ N_ hN => (O.load1F (G := Dt.intF) Tryz.isAgg3 rfl rfl rfl (h33.keep hw_) (O.nil hN))) ?_
      refine D.take (i := 4) rfl rfl rfl rfl (by kernel_rfl) (Le.refl _) ⟨pure _, rfl⟩ (fun w_ hw_ N_ hN => (O.mv (O.nil hN))) ?_
      refine D.take (i := 5) rfl rfl rfl rfl (by kernel_rfl) (Le.refl _) ⟨pure _, rfl⟩ (fun w_ hw_ N_ hN => (O.mv (O.nil hN))) ?_
      obtain ⟨a37, h37, hr37⟩ := Sl.at (i := (k : Int)) (P := Tryz.prog) Tryz.underlying43 Tryz.sizeOf3 rfl (((hw.keep e1).keep e_1).keep e3) (by omega)
      refine D.take (i := 6) rfl rfl rfl rfl (by kernel_rfl) (Le.refl _) ⟨_, rfl⟩ (fun w_ hw_ N_ hN => (O.idxR s1_1 s9_1 hr37 (O.nil hN))) ?_
      refine D.take (i := 7) rfl rfl rfl rfl (by kernel_rfl) (Le.refl _) ⟨_, rfl⟩ (fun w_ hw_ N_ hN => (O.load1F (G := Dt.intF) Tryz.isAgg3 rfl rfl rfl (h37.keep hw_) (O.nil hN))) ?_
      refine D.take (i := 8) rfl rfl rfl rfl (by kernel_rfl) (Le.refl _) ⟨_, rfl⟩ (fun w_ hw_ N_ hN => (O.neqI rfl rfl (O.nil hN))) ?_
      refine D.cast (v' := .bool false) (congrArg Value.bool (by exact decide_eq_false (fun h => h rfl))) ?_
      refine D.done (by kernel_rfl) ?_
      refine hK12 _ _ ?_
      refine C.condF rfl ?_
      refine C.skip ?_
      refine hK11 _ _ ?_
      refine hK10 _ _ ?_
      refine C.region ?_
      refine O.mv ?_
      refine O.addI s9_1 rfl (by unfold InI; omega) ?_
      refine O.asg ?_
      refine O.nil ?_
      refine ⟨k + 1, ⟨rfl, s1_1, s7_1, (Ext.trans e_1 e3), ?_⟩, by first | omega | (simp only []; omega)⟩
      omega
    ·
      refine C.exit ?_
      refine hK7 _ _ ?_
      refine hK5 _ _ ?_
      refine C.seqK fun K13 hK13 => ?_
      refine C.region ?_
      refine O.asg ?_
      refine O.nil ?_
      refine hK13 _ _ ?_
      refine C.ret ?_
      refine Outs.one rfl rfl ?_
      exact ⟨rfl, (Ext.trans e1 e_1)⟩

set_option maxHeartbeats 8000000 in
theorem known_spec (w : World) (mx : Mx w) :
    Ret Tryz.prog 13 #[] w (fun v w' => v = .bool true ∧ Le w w') := by
  obtain ⟨ie24, ti24, ts24, tb24, tz24⟩ := inf24
  obtain ⟨ie22, ti22, ts22, tb22, tz22⟩ := inf22
  obtain ⟨ie3, ti3, ts3, tb3, tz3⟩ := inf3
  refine enter (args := []) (n := 70) Tryz.func13 rfl rfl (Nat.le_of_ble_eq_true rfl) ?_
  refine C.seqK fun K1 hK1 => ?_
  refine C.region ?_
  refine O.asg ?_
  refine O.nil ?_
  refine hK1 _ _ ?_
  refine C.seqK fun K2 hK2 => ?_
  refine C.region ?_
  refine O.call Tryz.call25 (args2 rfl rfl) (csign_spec _) ?_
  rintro v_3 w1 ⟨rfl, hw_⟩
  replace hw_ := hw_.symm
  subst hw_
  refine O.asg ?_
  refine O.nil ?_
  refine hK2 _ _ ?_
  refine C.seqK fun K3 hK3 => ?_
  refine C.seqK fun K4 hK4 => ?_
  refine C.region ?_
  refine O.call Tryz.call12 (args5 rfl rfl rfl rfl rfl) (prices_spec 999 3 4602678819172646912#64 1498 0 _ (by decide +kernel) (by decide +kernel)) ?_
  rintro v_4 w1 ⟨rfl, e1⟩
  have z1 := e1.size
  refine O.not rfl ?_
  refine O.cast (v' := .bool false) rfl ?_
  refine O.mv ?_
  refine O.yes rfl rfl ?_
  refine O.call Tryz.call12 (args5 rfl rfl rfl rfl rfl) (prices_spec 10 1 4607182418800017408#64 10 0 _ (by decide +kernel) (by decide +kernel)) ?_
  rintro v_7 w2 ⟨rfl, e2⟩
  have z2 := e2.size
  refine O.yes rfl rfl ?_
  refine O.not rfl ?_
  refine O.cast (v' := .bool false) rfl ?_
  refine O.pickF rfl ?_
  refine O.mv ?_
  refine O.yes rfl rfl ?_
  refine O.mv ?_
  refine O.yes rfl rfl ?_
  refine O.call Tryz.call12 (args5 rfl rfl rfl rfl rfl) (prices_spec 10 1 9223372036854775808#64 0 0 _ (by decide +kernel) (by decide +kernel)) ?_
  rintro v_12 w3 ⟨rfl, e3⟩
  have z3 := e3.size
  refine O.yes rfl rfl ?_
  refine O.not rfl ?_
  refine O.cast (v' := .bool false) rfl ?_
  refine O.pickF rfl ?_
  refine O.mv ?_
  refine O.yes rfl rfl ?_
  refine O.call Tryz.call21 (argsN) (nan_spec _) ?_
  rintro v_16 w4 ⟨rfl, hw_⟩
  replace hw_ := hw_.symm
  subst hw_
  refine O.yes rfl rfl ?_
  refine O.call Tryz.call12 (args5 rfl rfl rfl rfl rfl) (prices_spec 7 1 9221120237041090560#64 0 2 _ (by decide +kernel) (by decide +kernel)) ?_
  rintro v_17 w4 ⟨rfl, e4⟩
  have z4 := e4.size
  refine O.yes rfl rfl ?_
  refine O.not rfl ?_
  refine O.cast (v' := .bool false) rfl ?_
  refine O.pickF rfl ?_
  refine O.mv ?_
  refine O.yes rfl rfl ?_
  refine O.call Tryz.call12 (args5 rfl rfl rfl rfl rfl) (prices_spec 7 1 4609434218613702656#64 0 2 _ (by decide +kernel) (by decide +kernel)) ?_
  rintro v_21 w5 ⟨rfl, e5⟩
  have z5 := e5.size
  refine O.yes rfl rfl ?_
  refine O.not rfl ?_
  refine O.cast (v' := .bool false) rfl ?_
  refine O.pickF rfl ?_
  refine O.mv ?_
  refine O.yes rfl rfl ?_
  refine O.call Tryz.call12 (args5 rfl rfl rfl rfl rfl) (prices_spec 7 0 4607182418800017408#64 0 2 _ (by decide +kernel) (by decide +kernel)) ?_
  rintro v_25 w6 ⟨rfl, e6⟩
  have z6 := e6.size
  refine O.yes rfl rfl ?_
  refine O.not rfl ?_
  refine O.cast (v' := .bool false) rfl ?_
  refine O.pickF rfl ?_
  refine O.nil ?_
  refine hK4 _ _ ?_
  refine C.condF rfl ?_
  refine C.skip ?_
  refine hK3 _ _ ?_
  refine C.seqK fun K5 hK5 => ?_
  refine C.region ?_
  refine O.build (cells := (Ds.ruleF.e rule1).toArray) rfl (by kernel_rfl) ?_
  refine O.build (cells := (Ds.ruleF.e rule2).toArray) rfl (by kernel_rfl) ?_
  refine O.build (cells := (Ds.ruleF.e rule3).toArray) rfl (by kernel_rfl) ?_
  refine O.litG (G := Ds.ruleF) [rule1, rule2, rule3] Tryz.underlying32 ti24 ts24 tz24 rfl (by decide) (by decide) rfl (fun b31 w7 hb31 hz31 e7 => ?_)
  have z7 := e7.size
  have h31 := hz31.own
  have hq31 := Sl.litG (n := 3) h31 rfl (by unfold maxLen; omega)
  refine O.asg ?_
  refine O.nil ?_
  refine hK5 _ _ ?_
  refine C.seqK fun K6 hK6 => ?_
  refine C.seqK fun K7 hK7 => ?_
  refine C.region ?_
  refine O.mv ?_
  refine O.call Tryz.call16 (args6 rfl rfl rfl rfl rfl rfl) (bests_spec 100 10 (.slice (some ⟨b31, 0, none⟩) 3 3) [rule1, rule2, rule3] _ 1 750 0 _ hq31 (((((((mx.keep e1).keep e2).keep e3).keep e4).keep e5).keep e6).keep e7) (by decide +kernel) (by decide +kernel) (by decide +kernel)) ?_
  rintro v_33 w8 ⟨rfl, e8⟩
  have z8 := e8.size
  refine O.not rfl ?_
  refine O.cast (v' := .bool false) rfl ?_
  refine O.mv ?_
  refine O.yes rfl rfl ?_
  refine O.mv ?_
  refine O.yes rfl rfl ?_
  have hb37 := Sl.sub (P := Tryz.prog) (0) (1) Tryz.underlying32 Tryz.sizeOf24 (by rfl) (hq31.keep e8) (Nat.zero_le _) (by decide)
  obtain ⟨v37, hs37, hr37⟩ := hb37
  refine O.subR rfl hr37 (.inl ⟨rfl, rfl⟩) (.inr ⟨_, _, rfl, rfl⟩) ?_
  refine O.yes rfl rfl ?_
  refine O.call Tryz.call16 (args6 rfl rfl rfl rfl rfl rfl) (bests_spec 100 1 v37 (([rule1, rule2, rule3].take 1).drop 0) _ (-1) 100 0 _ hs37 ((((((((mx.keep e1).keep e2).keep e3).keep e4).keep e5).keep e6).keep e7).keep e8) (by decide +kernel) (by decide +kernel) (by decide +kernel)) ?_
  rintro v_38 w9 ⟨rfl, e9⟩
  have z9 := e9.size
  refine O.yes rfl rfl ?_
  refine O.not rfl ?_
  refine O.cast (v' := .bool false) rfl ?_
  refine O.pickF rfl ?_
  refine O.mv ?_
  refine O.yes rfl rfl ?_
  refine O.mv ?_
  refine O.yes rfl rfl ?_
  refine O.idx Tryz.underlying32 Tryz.sizeOf24 rfl rfl ((hq31.keep e8).keep e9) rfl (by decide) (fun a43 h43 => ?_)
  refine O.yes rfl rfl ?_
  refine O.loadG (G := Ds.ruleF) Tryz.isAgg24 Tryz.sizeOf24 rfl h43 ?_
  refine O.yes rfl rfl ?_
  refine O.build (cells := (Ds.ruleF.e rule4).toArray) rfl (by kernel_rfl) ?_
  refine O.yes rfl rfl ?_
  refine O.litG (G := Ds.ruleF) [rule1, rule4] Tryz.underlying32 ti24 ts24 tz24 rfl (by decide) (by decide) rfl (fun b46 w10 hb46 hz46 e10 => ?_)
  have z10 := e10.size
  have h46 := hz46.own
  have hq46 := Sl.litG (n := 2) h46 rfl (by unfold maxLen; omega)
  refine O.yes rfl rfl ?_
  refine O.call Tryz.call17 (args6 rfl rfl rfl rfl rfl rfl) (together_spec 100 20 (.slice (some ⟨b46, 0, none⟩) 2 2) [rule1, rule4] _ 500 4598175219545276416#64 0 _ hq46 ((((((((((mx.keep e1).keep e2).keep e3).keep e4).keep e5).keep e6).keep e7).keep e8).keep e9).keep e10) (by decide +kernel) (by decide +kernel) (by decide +kernel) (by decide +kernel)) ?_
  rintro v_47 w11 ⟨rfl, e11⟩
  have z11 := e11.size
  refine O.yes rfl rfl ?_
  refine O.not rfl ?_
  refine O.cast (v' := .bool false) rfl ?_
  refine O.pickF rfl ?_
  refine O.nil ?_
  refine hK7 _ _ ?_
  refine C.condF rfl ?_
  refine C.skip ?_
  refine hK6 _ _ ?_
  refine C.seqK fun K8 hK8 => ?_
  refine C.region ?_
  refine O.litn [fl 4607182418800017408#64, fl 4611686018427387904#64, fl 4618441417868443648#64] Tryz.underlying37 ti22 ts22 tz22 rfl (by decide) (by decide) rfl (by simp [fl, Value.oneCell']) (fun b50 w12 hb50 hz50 e12 => ?_)
  have z12 := e12.size
  have h50 := hz50.own
  have hl50 := h50.lt
  have h1050 : Sl flF.enc w12 (fun k => k = b50) (.slice (some ⟨b50, 0, none⟩) 3 3) [4607182418800017408#64, 4611686018427387904#64, 4618441417868443648#64] := Sl.of_own (G := flF) h50 rfl (Nat.le_refl _) (by unfold maxLen; simp) (by simp [flF])
  refine O.call Tryz.call19 (args3 rfl rfl rfl) (means_spec (.slice (some ⟨b50, 0, none⟩) 3 3) [4607182418800017408#64, 4611686018427387904#64, 4618441417868443648#64] _ 4613937818241073152#64 0 _ h1050 (by decide +kernel) (by decide +kernel)) ?_
  rintro v_51 w13 ⟨rfl, e13⟩
  have z13 := e13.size
  refine O.mv ?_
  refine O.yes rfl rfl ?_
  refine O.call Tryz.call21 (argsN) (nan_spec _) ?_
  rintro v_53 w14 ⟨rfl, hw_⟩
  replace hw_ := hw_.symm
  subst hw_
  refine O.yes rfl rfl ?_
  refine O.call Tryz.call19 (args3 rfl rfl rfl) (means_spec (.slice none 0 0) [] (fun _ => False) 9221120237041090560#64 0 _ (Sl.nil _ _ _) (by decide +kernel) (by decide +kernel)) ?_
  rintro v_54 w14 ⟨rfl, e14⟩
  have z14 := e14.size
  refine O.pickT rfl ?_
  refine O.mv ?_
  refine O.yes rfl rfl ?_
  refine O.call Tryz.call33 (args1 rfl) (minf_p_spec _) ?_
  rintro v_57 w15 ⟨rfl, hw_⟩
  replace hw_ := hw_.symm
  subst hw_
  refine O.yes rfl rfl ?_
  refine O.call Tryz.call33 (args1 rfl) (minf_n_spec _) ?_
  rintro v_58 w15 ⟨rfl, hw_⟩
  replace hw_ := hw_.symm
  subst hw_
  refine O.yes rfl rfl ?_
  refine O.litn [fl 9218868437227405312#64, fl 18442240474082181120#64] Tryz.underlying37 ti22 ts22 tz22 rfl (by decide) (by decide) rfl (by simp [fl, Value.oneCell']) (fun b59 w15 hb59 hz59 e15 => ?_)
  have z15 := e15.size
  have h59 := hz59.own
  have hl59 := h59.lt
  have h1059 : Sl flF.enc w15 (fun k => k = b59) (.slice (some ⟨b59, 0, none⟩) 2 2) [9218868437227405312#64, 18442240474082181120#64] := Sl.of_own (G := flF) h59 rfl (Nat.le_refl _) (by unfold maxLen; simp) (by simp [flF])
  refine O.yes rfl rfl ?_
  refine O.call Tryz.call21 (argsN) (nan_spec _) ?_
  rintro v_60 w16 ⟨rfl, hw_⟩
  replace hw_ := hw_.symm
  subst hw_
  refine O.yes rfl rfl ?_
  refine O.call Tryz.call19 (args3 rfl rfl rfl) (means_spec (.slice (some ⟨b59, 0, none⟩) 2 2) [9218868437227405312#64, 18442240474082181120#64] _ 9221120237041090560#64 0 _ h1059 (by decide +kernel) (by decide +kernel)) ?_
  rintro v_61 w16 ⟨rfl, e16⟩
  have z16 := e16.size
  refine O.pickT rfl ?_
  refine O.mv ?_
  refine O.yes rfl rfl ?_
  refine O.call Tryz.call21 (argsN) (nan_spec _) ?_
  rintro v_64 w17 ⟨rfl, hw_⟩
  replace hw_ := hw_.symm
  subst hw_
  refine O.yes rfl rfl ?_
  refine O.call Tryz.call33 (args1 rfl) (minf_n_spec _) ?_
  rintro v_65 w17 ⟨rfl, hw_⟩
  replace hw_ := hw_.symm
  subst hw_
  refine O.yes rfl rfl ?_
  refine O.litn [fl 4607182418800017408#64, fl 9221120237041090560#64, fl 18442240474082181120#64, fl 4611686018427387904#64, fl 4607182418800017408#64] Tryz.underlying37 ti22 ts22 tz22 rfl (by decide) (by decide) rfl (by simp [fl, Value.oneCell']) (fun b66 w17 hb66 hz66 e17 => ?_)
  have z17 := e17.size
  have h66 := hz66.own
  have hl66 := h66.lt
  have h1066 : Sl flF.enc w17 (fun k => k = b66) (.slice (some ⟨b66, 0, none⟩) 5 5) [4607182418800017408#64, 9221120237041090560#64, 18442240474082181120#64, 4611686018427387904#64, 4607182418800017408#64] := Sl.of_own (G := flF) h66 rfl (Nat.le_refl _) (by unfold maxLen; simp) (by simp [flF])
  refine O.yes rfl rfl ?_
  refine O.litn [.int .i64 1, .int .i64 3, .int .i64 0, .int .i64 4, .int .i64 2] Tryz.underlying43 ti3 ts3 tz3 rfl (by decide) (by decide) rfl (by intro u hu; simp only [List.mem_cons, List.not_mem_nil, or_false] at hu; rcases hu with rfl | rfl | rfl | rfl | rfl <;> rfl) (fun b67 w18 hb67 hz67 e18 => ?_)
  have z18 := e18.size
  have h67 := hz67.own
  have hl67 := h67.lt
  have h1067 : Sl Dt.intF.enc w18 (fun k => k = b67) (.slice (some ⟨b67, 0, none⟩) 5 5) [1, 3, 0, 4, 2] := Sl.of_own (G := Dt.intF) h67 rfl (Nat.le_refl _) (by unfold maxLen; simp) (by simp [Dt.intF])
  refine O.yes rfl rfl ?_
  refine O.call Tryz.call20 (args3 rfl rfl rfl) (ranksS_spec (some ⟨b66, 0, none⟩, 5, 5) [4607182418800017408#64, 9221120237041090560#64, 18442240474082181120#64, 4611686018427387904#64, 4607182418800017408#64] _ (.slice (some ⟨b67, 0, none⟩) 5 5) [1, 3, 0, 4, 2] _ 4 _ (h1066.keep e18) (fun j hj => by have hj : j = b66 := hj; have := ((h66.keep e18)).lt; omega) h1067 rfl (by decide) (by decide +kernel)) ?_
  rintro v_68 w19 ⟨rfl, e19⟩
  have z19 := e19.size
  refine O.pickT rfl ?_
  refine O.asg ?_
  refine O.nil ?_
  refine hK8 _ _ ?_
  refine C.ret ?_
  refine Outs.one rfl rfl ?_
  exact ⟨rfl, (Ext.trans (Ext.trans (Ext.trans (Ext.trans (Ext.trans (Ext.trans (Ext.trans (Ext.trans (Ext.trans (Ext.trans (Ext.trans (Ext.trans (Ext.trans (Ext.trans (Ext.trans (Ext.trans (Ext.trans (Ext.trans e1 e2) e3) e4) e5) e6) e7) e8) e9) e10) e11) e12) e13) e14) e15) e16) e17) e18) e19)⟩

end Go.Proofs.YtbadfphdniliaaaGreatDoor
end
