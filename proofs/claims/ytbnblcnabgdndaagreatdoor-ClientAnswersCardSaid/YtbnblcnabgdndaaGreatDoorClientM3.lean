/-
 DERIVED: THE SHELF's CONTRACTS AT THIS DUMP, IN PLAIN WORDS (tools/lay-plain.mjs out of 'TryzPruned.lean', which tools/lay-shelf.mjs wrote): THE SAME DECLARATIONS UNDER THE SAME NAMES: 'import', 'namespace', 'open', 'def', 'theorem' AND NOTHING ELSE: no command of the shelf's: FOR A HAND-IN. Each laying: the table of numbers ('.._ren') and one theorem, a field a fact of the dump's own or the kernel's comparison; each contract: ONE APPLICATION.
-/
import Derived.Shelf.Strings.Builder1
import Derived.Shelf.Strings.Builder2
import Derived.Shelf.Strings.OnBuilder
import Derived.Shelf.Small.Strs
import Derived.Shelf.Strings.BuilderF
import Derived.Shelf.Strings.BuilderK
import Derived.Shelf.Utf8.RuneCount
import Derived.Shelf.Strings.Builder2Cap
import Derived.Shelf.Strconv.Atoi
import Derived.Shelf.Strconv.Itoa0
import Derived.Shelf.Strconv.Itoa1
import Derived.Shelf.LaysM
import Derived.Shelf.Strconv.Itoa2
import Derived.Shelf.Strconv.Itoa3
import Derived.Shelf.Strconv.AtoiErrFast
import Derived.Shelf.Strconv.ParseIntEmpty
import Derived.Shelf.Strconv.AtoiFail
import Derived.Shelf.Strconv.Clone
import Derived.Shelf.Strconv.SyntaxError
import Derived.Shelf.LaysC
import Derived.Shelf.Strconv.ToError
import Derived.Shelf.Strconv.Lower
import Derived.Shelf.Strconv.ParseUint10
import Derived.Shelf.Strconv.ParseUint10Empty
import Derived.Shelf.Strconv.ParseUint10Any
import Derived.Shelf.Strconv.ParseInt10
import Derived.Shelf.Strconv.AtoiLong
import Derived.Shelf.Strconv.AtoiInnerAll
import Derived.Shelf.Strconv.RangeError
import Derived.Shelf.Strconv.ToErrorRange
import Derived.Shelf.Strconv.AtoiAll
import Derived.Shelf.Strconv.ErrVarAll
import Derived.Shelf.Strings.Search1
import Derived.Shelf.Strings.Search2
import Derived.Shelf.Strings.Search3
import Derived.Shelf.Strings.Cut
import Derived.Shelf.Strings.Count
import Derived.Shelf.Strings.Shaped
import Derived.Shelf.Strings.Prefix
import Derived.Shelf.Strings.Split
import Derived.Shelf.Strings.SplitShaped
import Derived.Shelf.Unicode.Decode
import Derived.Shelf.Strings.RuneCount
import Derived.Shelf.Strings.Explode
import Derived.Shelf.Unicode.DecodeSlow
import Derived.Shelf.Unicode.DecodeAny
import Derived.Shelf.Strings.BuilderCap
import Derived.Test.YtbnblcnabgdndaaGreatDoorProg
import Derived.Lib.SmallJoins
import Derived.Test.YtbnblcnabgdndaaGreatDoorClientM2
set_option maxHeartbeats 16000000
namespace Go.Proofs
open _root_.Go.Proofs.Tryz
theorem Z100:type_of%@sizeOf100:=sizeOf100
theorem Z22:type_of%@sizeOf22:=sizeOf22
theorem Z23:type_of%@sizeOf23:=sizeOf23
theorem Z25:type_of%@sizeOf25:=sizeOf25
theorem Z28:type_of%@sizeOf28:=sizeOf28
theorem Z3:type_of%@sizeOf3:=sizeOf3
theorem Z4:type_of%@sizeOf4:=sizeOf4
theorem Z45:type_of%@sizeOf45:=sizeOf45
theorem Z46:type_of%@sizeOf46:=sizeOf46
theorem Z48:type_of%@sizeOf48:=sizeOf48
theorem Z5:type_of%@sizeOf5:=sizeOf5
theorem Z59:type_of%@sizeOf59:=sizeOf59
theorem Z72:type_of%@sizeOf72:=sizeOf72
theorem Z84:type_of%@sizeOf84:=sizeOf84
theorem Z9:type_of%@sizeOf9:=sizeOf9
theorem U100:type_of%@underlying100:=underlying100
theorem U131:type_of%@underlying131:=underlying131
theorem U23:type_of%@underlying23:=underlying23
theorem U25:type_of%@underlying25:=underlying25
theorem U3:type_of%@underlying3:=underlying3
theorem U37:type_of%@underlying37:=underlying37
theorem U45:type_of%@underlying45:=underlying45
theorem U46:type_of%@underlying46:=underlying46
theorem U48:type_of%@underlying48:=underlying48
theorem U5:type_of%@underlying5:=underlying5
theorem U59:type_of%@underlying59:=underlying59
theorem U69:type_of%@underlying69:=underlying69
theorem U72:type_of%@underlying72:=underlying72
theorem U73:type_of%@underlying73:=underlying73
theorem U76:type_of%@underlying76:=underlying76
theorem U81:type_of%@underlying81:=underlying81
theorem U84:type_of%@underlying84:=underlying84
theorem U9:type_of%@underlying9:=underlying9
end Go.Proofs
section
namespace Go.Proofs
open Go.Shelf
def Tryz.lays169_ren:Go.Shelf.Ren:=⟨λ|169=>67|n=>n,λ|70=>108|9=>9|0=>0|72=>110|37=>23|127=>145|3=>3|5=>5|n=>n,λ|n=>n⟩
theorem Tryz.lays169:Go.Proofs.Lays.n169 Tryz.prog Tryz.lays169_ren:={
 mixed:=by kernel_rfl
 f169:=Tryz.func67.trans (congrArg some (by kernel_rfl))
 t0:=Tryz.underlying0
 a0:=Tryz.isAgg0
 z0:=Tryz.sizeOf0
 v0:=Tryz.zeroValue0
 t3:=U3
 a3:=Tryz.isAgg3
 z3:=Z3
 v3:=Tryz.zeroValue3
 t9:=U9
 a9:=Tryz.isAgg9
 z9:=Z9
 v9:=Tryz.zeroValue9
 t37:=U23
 a37:=Tryz.isAgg23
 z37:=Z23
 v37:=Tryz.zeroValue23
 t70:=Tryz.underlying108
 a70:=Tryz.isAgg108
 z70:=Tryz.sizeOf108
 v70:=Tryz.zeroValue108
 t72:=Tryz.underlying110
 a72:=Tryz.isAgg110
 z72:=Tryz.sizeOf110
 v72:=Tryz.zeroValue110
 t127:=Tryz.underlying145
 a127:=Tryz.isAgg145
 z127:=Tryz.sizeOf145
 v127:=Tryz.zeroValue145}
theorem Tryz.Builder_Extra_169:Builder.Extra Tryz.prog Tryz.lays169_ren:={
 sizeBuilder:=by kernel_rfl
 liesBuilder:=by kernel_rfl
 t5:=U5
 a5:=Tryz.isAgg5
 z5:=Z5
 v5:=Tryz.zeroValue5
 infoByte:=by kernel_rfl
 cellsByte:=by kernel_rfl
 sizeByte:=by kernel_rfl
 neB5:=by decide}
open Go.RowKit in
theorem Tryz.Builder_String_any (B b:Nat)(l:List UInt8)(w:World)(h:Lib.IsBuilder 110 5 B b (Lib.byteCells l) w)(hBw:B<=w.heap.size):
 Calls Tryz.prog 67 #[.pointer (some ⟨b,0,none⟩)] w λe w'=>e=.returned (.string ⟨l.toArray⟩)∧Below B w w':=Any.Builder_String_any Tryz.lays169 Tryz.Builder_Extra_169 B b l w h hBw
def Tryz.lays156_ren:Go.Shelf.Ren:=⟨λ|156=>63|165=>92|166=>66|169=>67|240=>97|241=>110|276=>113|277=>131|n=>n,λ|31=>37|9=>9|3=>3|4=>4|0=>0|20=>20|72=>110|76=>113|70=>108|37=>23|75=>112|127=>145|164=>155|5=>5|80=>116|n=>n,λ|n=>n⟩
theorem Tryz.lays156:Go.Proofs.Lays.n156 Tryz.prog Tryz.lays156_ren:={
 mixed:=by kernel_rfl
 f156:=Tryz.func63.trans (congrArg some (by kernel_rfl))
 f165:=Tryz.func92.trans (congrArg some (by kernel_rfl))
 f166:=Tryz.func66.trans (congrArg some (by kernel_rfl))
 f169:=Tryz.func67.trans (congrArg some (by kernel_rfl))
 f240:=Tryz.func97.trans (congrArg some (by kernel_rfl))
 f241:=Tryz.func110.trans (congrArg some (by kernel_rfl))
 f276:=Tryz.func113.trans (congrArg some (by kernel_rfl))
 f277:=Tryz.func131.trans (congrArg some (by kernel_rfl))
 t0:=Tryz.underlying0
 a0:=Tryz.isAgg0
 z0:=Tryz.sizeOf0
 v0:=Tryz.zeroValue0
 t3:=U3
 a3:=Tryz.isAgg3
 z3:=Z3
 v3:=Tryz.zeroValue3
 t4:=Tryz.underlying4
 a4:=Tryz.isAgg4
 z4:=Z4
 v4:=Tryz.zeroValue4
 t9:=U9
 a9:=Tryz.isAgg9
 z9:=Z9
 v9:=Tryz.zeroValue9
 t20:=Tryz.underlying20
 a20:=Tryz.isAgg20
 z20:=Tryz.sizeOf20
 v20:=Tryz.zeroValue20
 t31:=U37
 a31:=Tryz.isAgg37
 z31:=Tryz.sizeOf37
 v31:=Tryz.zeroValue37
 t37:=U23
 a37:=Tryz.isAgg23
 z37:=Z23
 v37:=Tryz.zeroValue23
 t70:=Tryz.underlying108
 a70:=Tryz.isAgg108
 z70:=Tryz.sizeOf108
 v70:=Tryz.zeroValue108
 t72:=Tryz.underlying110
 a72:=Tryz.isAgg110
 z72:=Tryz.sizeOf110
 v72:=Tryz.zeroValue110
 t75:=Tryz.underlying112
 a75:=Tryz.isAgg112
 z75:=Tryz.sizeOf112
 v75:=Tryz.zeroValue112
 t76:=Tryz.underlying113
 a76:=Tryz.isAgg113
 z76:=Tryz.sizeOf113
 v76:=Tryz.zeroValue113
 t127:=Tryz.underlying145
 a127:=Tryz.isAgg145
 z127:=Tryz.sizeOf145
 v127:=Tryz.zeroValue145
 t164:=Tryz.underlying155
 a164:=Tryz.isAgg155
 z164:=Tryz.sizeOf155
 v164:=Tryz.zeroValue155}
theorem Tryz.Builder_Extra_156:Builder.Extra Tryz.prog Tryz.lays156_ren:={
 sizeBuilder:=by kernel_rfl
 liesBuilder:=by kernel_rfl
 t5:=U5
 a5:=Tryz.isAgg5
 z5:=Z5
 v5:=Tryz.zeroValue5
 infoByte:=by kernel_rfl
 cellsByte:=by kernel_rfl
 sizeByte:=by kernel_rfl
 neB5:=by decide}
open Go.RowKit in
theorem Tryz.strings_Join (bk o c:Nat)(xs:List ByteArray)(sep:ByteArray)(w:World)(hcells:∀(j:Nat) x,xs[j]? =some x->w.cell? ⟨bk,o+j,none⟩=some (.string x))(hbk:bk<w.heap.size)(hN:xs.length<=140737488355328)(hcap:xs.length<=c)(hlen:(Lib.join (xs.map (·.data.toList)) sep.data.toList).length<=140737488355328):
 Calls Tryz.prog 63 #[.slice (some ⟨bk,o,none⟩) xs.length c,.string sep] w λe w'=>e=.returned (.string ⟨(Lib.join (xs.map (·.data.toList)) sep.data.toList).toArray⟩)∧Below w.heap.size w w':=Any.strings_Join Tryz.lays156 Tryz.Builder_Extra_156 bk o c xs sep w hcells hbk hN hcap hlen
def Tryz.lays137_ren:Go.Shelf.Ren:=⟨λ|137=>99|217=>114|266=>132|n=>n,λ|9=>9|5=>5|3=>3|n=>n,λ|n=>n⟩
theorem Tryz.lays137:Go.Proofs.Lays.n137 Tryz.prog Tryz.lays137_ren:={
 mixed:=by kernel_rfl
 f137:=Tryz.func99.trans (congrArg some (by kernel_rfl))
 f217:=Tryz.func114.trans (congrArg some (by kernel_rfl))
 f266:=Tryz.func132.trans (congrArg some (by kernel_rfl))
 t3:=U3
 a3:=Tryz.isAgg3
 z3:=Z3
 v3:=Tryz.zeroValue3
 t5:=U5
 a5:=Tryz.isAgg5
 z5:=Z5
 v5:=Tryz.zeroValue5
 t9:=U9
 a9:=Tryz.isAgg9
 z9:=Z9
 v9:=Tryz.zeroValue9}
open Go.RowKit in
theorem Tryz.strings_IndexByte (s:ByteArray)(c:Int)(w:World):
 Calls Tryz.prog 99 #[.string s,.int .u8 c] w λe w'=>e=.returned (.int .i64 (Lib.indexByte s.data.toList c.toNat.toUInt8))∧w'=w:=Any.strings_IndexByte Tryz.lays137 s c w
def Tryz.laysM171_ren:Go.Shelf.Ren:=⟨λ|171=>60|243=>90|246=>109|283=>127|284=>128|285=>129|286=>130|129=>141|317=>140|318=>142|319=>143|320=>144|337=>148|338=>149|n=>n,λ|3=>3|9=>9|2=>2|4=>4|171=>166|0=>0|53=>76|37=>23|5=>5|173=>169|212=>184|51=>180|20=>20|213=>185|46=>140|232=>198|233=>199|n=>n,λ|17=>4|18=>7|19=>8|n=>n⟩
theorem Tryz.laysM171:Go.Proofs.LaysM.n171 Tryz.prog Tryz.laysM171_ren:={
 mixed:=by kernel_rfl
 f129:=Tryz.func141.trans (congrArg some (by kernel_rfl))
 f171:=Tryz.func60.trans (congrArg some (by kernel_rfl))
 f243:=Tryz.func90.trans (congrArg some (by kernel_rfl))
 f246:=Tryz.func109.trans (congrArg some (by kernel_rfl))
 f283:=Tryz.func127.trans (congrArg some (by kernel_rfl))
 f284:=Tryz.func128.trans (congrArg some (by kernel_rfl))
 f285:=Tryz.func129.trans (congrArg some (by kernel_rfl))
 f286:=Tryz.func130.trans (congrArg some (by kernel_rfl))
 f317:=Tryz.func140.trans (congrArg some (by kernel_rfl))
 f318:=Tryz.func142.trans (congrArg some (by kernel_rfl))
 f319:=Tryz.func143.trans (congrArg some (by kernel_rfl))
 f320:=Tryz.func144.trans (congrArg some (by kernel_rfl))
 f337:=Tryz.func148.trans (congrArg some (by kernel_rfl))
 f338:=Tryz.func149.trans (congrArg some (by kernel_rfl))
 t0:=Tryz.underlying0
 a0:=Tryz.isAgg0
 z0:=Tryz.sizeOf0
 v0:=Tryz.zeroValue0
 t2:=Tryz.underlying2
 a2:=Tryz.isAgg2
 z2:=Tryz.sizeOf2
 v2:=Tryz.zeroValue2
 t3:=U3
 a3:=Tryz.isAgg3
 z3:=Z3
 v3:=Tryz.zeroValue3
 t4:=Tryz.underlying4
 a4:=Tryz.isAgg4
 z4:=Z4
 v4:=Tryz.zeroValue4
 t5:=U5
 a5:=Tryz.isAgg5
 z5:=Z5
 v5:=Tryz.zeroValue5
 t9:=U9
 a9:=Tryz.isAgg9
 z9:=Z9
 v9:=Tryz.zeroValue9
 t20:=Tryz.underlying20
 a20:=Tryz.isAgg20
 z20:=Tryz.sizeOf20
 v20:=Tryz.zeroValue20
 t37:=U23
 a37:=Tryz.isAgg23
 z37:=Z23
 v37:=Tryz.zeroValue23
 t46:=Tryz.underlying140
 a46:=Tryz.isAgg140
 z46:=Tryz.sizeOf140
 v46:=Tryz.zeroValue140
 t51:=Tryz.underlying180
 a51:=Tryz.isAgg180
 z51:=Tryz.sizeOf180
 v51:=Tryz.zeroValue180
 t53:=U76
 a53:=Tryz.isAgg76
 z53:=Tryz.sizeOf76
 v53:=Tryz.zeroValue76
 t171:=Tryz.underlying166
 a171:=Tryz.isAgg166
 z171:=Tryz.sizeOf166
 v171:=Tryz.zeroValue166
 t173:=Tryz.underlying169
 a173:=Tryz.isAgg169
 z173:=Tryz.sizeOf169
 v173:=Tryz.zeroValue169
 t212:=Tryz.underlying184
 a212:=Tryz.isAgg184
 z212:=Tryz.sizeOf184
 v212:=Tryz.zeroValue184
 t213:=Tryz.underlying185
 a213:=Tryz.isAgg185
 z213:=Tryz.sizeOf185
 t232:=Tryz.underlying198
 a232:=Tryz.isAgg198
 z232:=Tryz.sizeOf198
 v232:=Tryz.zeroValue198
 t233:=Tryz.underlying199
 a233:=Tryz.isAgg199
 z233:=Tryz.sizeOf199
 v233:=Tryz.zeroValue199
 g17:=by kernel_rfl
 g18:=by kernel_rfl
 g19:=by kernel_rfl
 i0:=by kernel_rfl
 i2:=by kernel_rfl
 i3:=by kernel_rfl
 i4:=by kernel_rfl
 i5:=by kernel_rfl
 i9:=by kernel_rfl
 i20:=by kernel_rfl
 i37:=by kernel_rfl
 i46:=by kernel_rfl
 i51:=by kernel_rfl
 i53:=by kernel_rfl
 i171:=by kernel_rfl
 i173:=by kernel_rfl
 i212:=by kernel_rfl
 i232:=by kernel_rfl
 i233:=by kernel_rfl
 m17:=by kernel_rfl
 m18:=by kernel_rfl
 m19:=by kernel_rfl}
open Go.RowKit Go.Sort Go.Lib in
theorem Tryz.strconv_Itoa (n:Int) (h0: -9223372036854775808≤n) (h1:n≤9223372036854775807) (w:World) (htab:Lib.TabIs Tryz.prog w "internal/strconv.uint64pow10" .u64 Lib.pow10Tab):
 Calls Tryz.prog 60 #[.int .i64 n] w λe w'=>e=.returned (.string ⟨(Lib.itoa n).toArray⟩)∧∃k os,w'=grow (w.drewN k) os:=Any.strconv_Itoa Tryz.laysM171 n h0 h1 w htab
def Tryz.laysC172_ren:Go.Shelf.Ren:=⟨λ|172=>71|244=>100|245=>101|247=>115|279=>116|280=>117|281=>118|282=>119|287=>133|316=>134|171=>60|205=>135|321=>145|322=>146|243=>90|246=>109|283=>127|284=>128|285=>129|286=>130|129=>141|317=>140|318=>142|319=>143|320=>144|337=>148|338=>149|n=>n,λ|9=>9|3=>3|75=>112|76=>113|4=>4|5=>5|167=>157|37=>23|0=>0|85=>158|2=>2|168=>160|53=>76|175=>172|46=>140|210=>176|127=>145|145=>192|143=>190|21=>21|171=>166|173=>169|212=>184|51=>180|20=>20|213=>185|232=>198|233=>199|80=>116|n=>n,λ|15=>2|16=>3|17=>4|18=>7|19=>8|n=>n⟩
theorem Tryz.laysC172:Go.Proofs.LaysC.n172 Tryz.prog Tryz.laysC172_ren:={
 mixed:=by kernel_rfl
 f129:=Tryz.func141.trans (congrArg some (by kernel_rfl))
 f171:=Tryz.func60.trans (congrArg some (by kernel_rfl))
 f172:=Tryz.func71.trans (congrArg some (by kernel_rfl))
 f205:=Tryz.func135.trans (congrArg some (by kernel_rfl))
 f243:=Tryz.func90.trans (congrArg some (by kernel_rfl))
 f244:=Tryz.func100.trans (congrArg some (by kernel_rfl))
 f245:=Tryz.func101.trans (congrArg some (by kernel_rfl))
 f246:=Tryz.func109.trans (congrArg some (by kernel_rfl))
 f247:=Tryz.func115.trans (congrArg some (by kernel_rfl))
 f279:=Tryz.func116.trans (congrArg some (by kernel_rfl))
 f280:=Tryz.func117.trans (congrArg some (by kernel_rfl))
 f281:=Tryz.func118.trans (congrArg some (by kernel_rfl))
 f282:=Tryz.func119.trans (congrArg some (by kernel_rfl))
 f283:=Tryz.func127.trans (congrArg some (by kernel_rfl))
 f284:=Tryz.func128.trans (congrArg some (by kernel_rfl))
 f285:=Tryz.func129.trans (congrArg some (by kernel_rfl))
 f286:=Tryz.func130.trans (congrArg some (by kernel_rfl))
 f287:=Tryz.func133.trans (congrArg some (by kernel_rfl))
 f316:=Tryz.func134.trans (congrArg some (by kernel_rfl))
 f317:=Tryz.func140.trans (congrArg some (by kernel_rfl))
 f318:=Tryz.func142.trans (congrArg some (by kernel_rfl))
 f319:=Tryz.func143.trans (congrArg some (by kernel_rfl))
 f320:=Tryz.func144.trans (congrArg some (by kernel_rfl))
 f321:=Tryz.func145.trans (congrArg some (by kernel_rfl))
 f322:=Tryz.func146.trans (congrArg some (by kernel_rfl))
 f337:=Tryz.func148.trans (congrArg some (by kernel_rfl))
 f338:=Tryz.func149.trans (congrArg some (by kernel_rfl))
 t0:=Tryz.underlying0
 a0:=Tryz.isAgg0
 z0:=Tryz.sizeOf0
 v0:=Tryz.zeroValue0
 t2:=Tryz.underlying2
 a2:=Tryz.isAgg2
 z2:=Tryz.sizeOf2
 v2:=Tryz.zeroValue2
 t3:=U3
 a3:=Tryz.isAgg3
 z3:=Z3
 v3:=Tryz.zeroValue3
 t4:=Tryz.underlying4
 a4:=Tryz.isAgg4
 z4:=Z4
 v4:=Tryz.zeroValue4
 t5:=U5
 a5:=Tryz.isAgg5
 z5:=Z5
 v5:=Tryz.zeroValue5
 t9:=U9
 a9:=Tryz.isAgg9
 z9:=Z9
 v9:=Tryz.zeroValue9
 t20:=Tryz.underlying20
 a20:=Tryz.isAgg20
 z20:=Tryz.sizeOf20
 v20:=Tryz.zeroValue20
 t21:=Tryz.underlying21
 a21:=Tryz.isAgg21
 z21:=Tryz.sizeOf21
 v21:=Tryz.zeroValue21
 t37:=U23
 a37:=Tryz.isAgg23
 z37:=Z23
 v37:=Tryz.zeroValue23
 t46:=Tryz.underlying140
 a46:=Tryz.isAgg140
 z46:=Tryz.sizeOf140
 v46:=Tryz.zeroValue140
 t51:=Tryz.underlying180
 a51:=Tryz.isAgg180
 z51:=Tryz.sizeOf180
 v51:=Tryz.zeroValue180
 t53:=U76
 a53:=Tryz.isAgg76
 z53:=Tryz.sizeOf76
 v53:=Tryz.zeroValue76
 t75:=Tryz.underlying112
 a75:=Tryz.isAgg112
 z75:=Tryz.sizeOf112
 v75:=Tryz.zeroValue112
 t76:=Tryz.underlying113
 a76:=Tryz.isAgg113
 z76:=Tryz.sizeOf113
 v76:=Tryz.zeroValue113
 t85:=Tryz.underlying158
 a85:=Tryz.isAgg158
 z85:=Tryz.sizeOf158
 v85:=Tryz.zeroValue158
 t127:=Tryz.underlying145
 a127:=Tryz.isAgg145
 z127:=Tryz.sizeOf145
 v127:=Tryz.zeroValue145
 t143:=Tryz.underlying190
 a143:=Tryz.isAgg190
 z143:=Tryz.sizeOf190
 v143:=Tryz.zeroValue190
 t145:=Tryz.underlying192
 a145:=Tryz.isAgg192
 z145:=Tryz.sizeOf192
 v145:=Tryz.zeroValue192
 t167:=Tryz.underlying157
 a167:=Tryz.isAgg157
 z167:=Tryz.sizeOf157
 v167:=Tryz.zeroValue157
 t168:=Tryz.underlying160
 a168:=Tryz.isAgg160
 z168:=Tryz.sizeOf160
 v168:=Tryz.zeroValue160
 t171:=Tryz.underlying166
 a171:=Tryz.isAgg166
 z171:=Tryz.sizeOf166
 v171:=Tryz.zeroValue166
 t173:=Tryz.underlying169
 a173:=Tryz.isAgg169
 z173:=Tryz.sizeOf169
 v173:=Tryz.zeroValue169
 t175:=Tryz.underlying172
 a175:=Tryz.isAgg172
 z175:=Tryz.sizeOf172
 v175:=Tryz.zeroValue172
 t210:=Tryz.underlying176
 a210:=Tryz.isAgg176
 z210:=Tryz.sizeOf176
 v210:=Tryz.zeroValue176
 t212:=Tryz.underlying184
 a212:=Tryz.isAgg184
 z212:=Tryz.sizeOf184
 v212:=Tryz.zeroValue184
 t213:=Tryz.underlying185
 a213:=Tryz.isAgg185
 z213:=Tryz.sizeOf185
 t232:=Tryz.underlying198
 a232:=Tryz.isAgg198
 z232:=Tryz.sizeOf198
 v232:=Tryz.zeroValue198
 t233:=Tryz.underlying199
 a233:=Tryz.isAgg199
 z233:=Tryz.sizeOf199
 v233:=Tryz.zeroValue199
 g15:=by kernel_rfl
 g16:=by kernel_rfl
 g17:=by kernel_rfl
 g18:=by kernel_rfl
 g19:=by kernel_rfl
 t80:=Tryz.underlying116
 a80:=Tryz.isAgg116
 z80:=Tryz.sizeOf116
 v80:=Tryz.zeroValue116
 i0:=by kernel_rfl
 i2:=by kernel_rfl
 i3:=by kernel_rfl
 i4:=by kernel_rfl
 i5:=by kernel_rfl
 i9:=by kernel_rfl
 i20:=by kernel_rfl
 i21:=by kernel_rfl
 i37:=by kernel_rfl
 i46:=by kernel_rfl
 i51:=by kernel_rfl
 i53:=by kernel_rfl
 i75:=by kernel_rfl
 i76:=by kernel_rfl
 i80:=by kernel_rfl
 i85:=by kernel_rfl
 i127:=by kernel_rfl
 i143:=by kernel_rfl
 i145:=by kernel_rfl
 i167:=by kernel_rfl
 i168:=by kernel_rfl
 i171:=by kernel_rfl
 i173:=by kernel_rfl
 i175:=by kernel_rfl
 i210:=by kernel_rfl
 i212:=by kernel_rfl
 i232:=by kernel_rfl
 i233:=by kernel_rfl
 m15:=by kernel_rfl
 m16:=by kernel_rfl
 m17:=by kernel_rfl
 m18:=by kernel_rfl
 m19:=by kernel_rfl
 c0:=by kernel_rfl
 c2:=by kernel_rfl
 c3:=by kernel_rfl
 c4:=by kernel_rfl
 c5:=by kernel_rfl
 c9:=by kernel_rfl
 c20:=by kernel_rfl
 c21:=by kernel_rfl
 c37:=by kernel_rfl
 c46:=by kernel_rfl
 c51:=by kernel_rfl
 c53:=by kernel_rfl
 c75:=by kernel_rfl
 c76:=by kernel_rfl
 c80:=by kernel_rfl
 c85:=by kernel_rfl
 c127:=by kernel_rfl
 c143:=by kernel_rfl
 c145:=by kernel_rfl
 c167:=by kernel_rfl
 c168:=by kernel_rfl
 c171:=by kernel_rfl
 c173:=by kernel_rfl
 c175:=by kernel_rfl
 c210:=by kernel_rfl
 c212:=by kernel_rfl
 c213:=by kernel_rfl
 c232:=by kernel_rfl
 c233:=by kernel_rfl}
open Go.RowKit in
theorem Tryz.strconv_Atoi_ok (s:ByteArray)(hmax:s.size<=9223372036854775806)(v:Int)(h:Lib.atoiAll s.data.toList=.ok v)(w:World):
 Calls Tryz.prog 71 #[.string s] w λe w'=>e=.returned (.tuple #[.int .i64 v,.nilIface])∧(w'=w∨∃t,w'=Lib.bytesWorld w 5 t):=Any.strconv_Atoi_ok Tryz.laysC172 s hmax v h w
open Go.RowKit in
theorem Tryz.strconv_Atoi_syntax (s:ByteArray)(hlim:s.size<=281474976710656)(h:Lib.atoiAll s.data.toList=.«syntax»)(ev:Value)(w:World)(hv:w.cell? ⟨2,0,none⟩=some ev)(hev:ev=.nilIface∨∃te pe,ev=.iface te pe):
 Calls Tryz.prog 71 #[.string s] w λe w'=>∃N,e=.returned (.tuple #[.int .i64 (0),.iface 160 (.pointer (some ⟨N,0,none⟩))])∧w.heap.size<=N∧w'.heap[N]? =some (.cells #[.string ⟨#[65,116,111,105]⟩,.string s,ev] 176 (0,0))∧Below w.heap.size w w':=Any.strconv_Atoi_syntax Tryz.laysC172 s hlim h ev w hv hev
open Go.RowKit in
theorem Tryz.strconv_Atoi_range (s:ByteArray)(hlim:s.size<=281474976710656)(h:Lib.atoiAll s.data.toList=.range)(ev:Value)(w:World)(hv:w.cell? ⟨3,0,none⟩=some ev)(hev:ev=.nilIface∨∃te pe,ev=.iface te pe):
 Calls Tryz.prog 71 #[.string s] w λe w'=>∃N,e=.returned (.tuple #[.int .i64 (Lib.atoiSat s.data.toList),.iface 160 (.pointer (some ⟨N,0,none⟩))])∧w.heap.size<=N∧w'.heap[N]? =some (.cells #[.string ⟨#[65,116,111,105]⟩,.string s,ev] 176 (0,0))∧Below w.heap.size w w':=Any.strconv_Atoi_range Tryz.laysC172 s hlim h ev w hv hev
def Tryz.lays219_ren:Go.Shelf.Ren:=⟨λ|219=>105|217=>114|225=>124|224=>125|267=>126|266=>132|314=>139|n=>n,λ|9=>9|3=>3|4=>4|5=>5|46=>140|146=>181|51=>180|n=>n,λ|1=>1|n=>n⟩
def Tryz.lays144_ren:Go.Shelf.Ren:=⟨λ|144=>42|143=>81|219=>105|217=>114|225=>124|224=>125|267=>126|266=>132|314=>139|n=>n,λ|9=>9|4=>4|3=>3|5=>5|46=>140|146=>181|51=>180|n=>n,λ|1=>1|n=>n⟩
theorem Tryz.lays144:Go.Proofs.Lays.n144 Tryz.prog Tryz.lays144_ren:={
 mixed:=by kernel_rfl
 f143:=Tryz.func81.trans (congrArg some (by kernel_rfl))
 f144:=Tryz.func42.trans (congrArg some (by kernel_rfl))
 f217:=Tryz.func114.trans (congrArg some (by kernel_rfl))
 f219:=Tryz.func105.trans (congrArg some (by kernel_rfl))
 f224:=Tryz.func125.trans (congrArg some (by kernel_rfl))
 f225:=Tryz.func124.trans (congrArg some (by kernel_rfl))
 f266:=Tryz.func132.trans (congrArg some (by kernel_rfl))
 f267:=Tryz.func126.trans (congrArg some (by kernel_rfl))
 f314:=Tryz.func139.trans (congrArg some (by kernel_rfl))
 t3:=U3
 a3:=Tryz.isAgg3
 z3:=Z3
 v3:=Tryz.zeroValue3
 t4:=Tryz.underlying4
 a4:=Tryz.isAgg4
 z4:=Z4
 v4:=Tryz.zeroValue4
 t5:=U5
 a5:=Tryz.isAgg5
 z5:=Z5
 v5:=Tryz.zeroValue5
 t9:=U9
 a9:=Tryz.isAgg9
 z9:=Z9
 v9:=Tryz.zeroValue9
 t46:=Tryz.underlying140
 a46:=Tryz.isAgg140
 z46:=Tryz.sizeOf140
 v46:=Tryz.zeroValue140
 t51:=Tryz.underlying180
 a51:=Tryz.isAgg180
 z51:=Tryz.sizeOf180
 v51:=Tryz.zeroValue180
 t146:=Tryz.underlying181
 a146:=Tryz.isAgg181
 z146:=Tryz.sizeOf181
 v146:=Tryz.zeroValue181
 g1:=by kernel_rfl}
open Go.RowKit Go.Lib in
theorem Tryz.strings_Contains_one (s:ByteArray)(c:UInt8)(w:World):
 Calls Tryz.prog 42 #[.string s,.string ⟨#[c]⟩] w λe w'=>e=.returned (.bool (decide (0<=Lib.indexByte s.data.toList c)))∧w'=w:=Any.strings_Contains_one Tryz.lays144 s c w
def Tryz.lays145_ren:Go.Shelf.Ren:=⟨λ|145=>68|220=>98|219=>105|217=>114|225=>124|224=>125|267=>126|266=>132|314=>139|n=>n,λ|9=>9|4=>4|59=>91|3=>3|5=>5|46=>140|146=>181|51=>180|n=>n,λ|1=>1|n=>n⟩
theorem Tryz.lays145:Go.Proofs.Lays.n145 Tryz.prog Tryz.lays145_ren:={
 mixed:=by kernel_rfl
 f145:=Tryz.func68.trans (congrArg some (by kernel_rfl))
 f217:=Tryz.func114.trans (congrArg some (by kernel_rfl))
 f219:=Tryz.func105.trans (congrArg some (by kernel_rfl))
 f220:=Tryz.func98.trans (congrArg some (by kernel_rfl))
 f224:=Tryz.func125.trans (congrArg some (by kernel_rfl))
 f225:=Tryz.func124.trans (congrArg some (by kernel_rfl))
 f266:=Tryz.func132.trans (congrArg some (by kernel_rfl))
 f267:=Tryz.func126.trans (congrArg some (by kernel_rfl))
 f314:=Tryz.func139.trans (congrArg some (by kernel_rfl))
 t3:=U3
 a3:=Tryz.isAgg3
 z3:=Z3
 v3:=Tryz.zeroValue3
 t4:=Tryz.underlying4
 a4:=Tryz.isAgg4
 z4:=Z4
 v4:=Tryz.zeroValue4
 t5:=U5
 a5:=Tryz.isAgg5
 z5:=Z5
 v5:=Tryz.zeroValue5
 t9:=U9
 a9:=Tryz.isAgg9
 z9:=Z9
 v9:=Tryz.zeroValue9
 t46:=Tryz.underlying140
 a46:=Tryz.isAgg140
 z46:=Tryz.sizeOf140
 v46:=Tryz.zeroValue140
 t51:=Tryz.underlying180
 a51:=Tryz.isAgg180
 z51:=Tryz.sizeOf180
 v51:=Tryz.zeroValue180
 t59:=Tryz.underlying91
 a59:=Tryz.isAgg91
 z59:=Tryz.sizeOf91
 v59:=Tryz.zeroValue91
 t146:=Tryz.underlying181
 a146:=Tryz.isAgg181
 z146:=Tryz.sizeOf181
 v146:=Tryz.zeroValue181
 g1:=by kernel_rfl}
open Go.RowKit Go.Lib in
theorem Tryz.strings_Cut (s sep:ByteArray)(m:Int)(w:World)(hs:s.size<4294967281)(hm:w.cell? ⟨1,0,none⟩=some (.int .i64 m)):
 Calls Tryz.prog 68 #[.string s,.string sep] w λe w'=>e=.returned (.tuple #[.string ⟨(Lib.cut s.data.toList sep.data.toList).1.toArray⟩,.string ⟨(Lib.cut s.data.toList sep.data.toList).2.1.toArray⟩,.bool (Lib.cut s.data.toList sep.data.toList).2.2])∧∃n,w'=w.drewN n:=Any.strings_Cut Tryz.lays145 s sep m w hs hm
def Tryz.lays102_ren:Go.Shelf.Ren:=⟨λ|102=>73|209=>103|207=>122|n=>n,λ|9=>9|4=>4|3=>3|n=>n,λ|n=>n⟩
theorem Tryz.lays102:Go.Proofs.Lays.n102 Tryz.prog Tryz.lays102_ren:={
 mixed:=by kernel_rfl
 f102:=Tryz.func73.trans (congrArg some (by kernel_rfl))
 f207:=Tryz.func122.trans (congrArg some (by kernel_rfl))
 f209:=Tryz.func103.trans (congrArg some (by kernel_rfl))
 t3:=U3
 a3:=Tryz.isAgg3
 z3:=Z3
 v3:=Tryz.zeroValue3
 t4:=Tryz.underlying4
 a4:=Tryz.isAgg4
 z4:=Z4
 v4:=Tryz.zeroValue4
 t9:=U9
 a9:=Tryz.isAgg9
 z9:=Z9
 v9:=Tryz.zeroValue9}
open Go.RowKit Go.Lib in
theorem Tryz.strings_TrimSuffix (s p:ByteArray)(w:World)(hs:s.size<=9223372036854775807):
 Calls Tryz.prog 73 #[.string s,.string p] w λe w'=>e=.returned (.string ⟨(Lib.trimSuffix s.data.toList p.data.toList).toArray⟩)∧w'=w:=Any.strings_TrimSuffix Tryz.lays102 s p w hs
def Tryz.lays146_ren:Go.Shelf.Ren:=⟨λ|146=>72|221=>102|268=>120|138=>121|143=>81|195=>136|197=>137|218=>138|219=>105|260=>147|217=>114|225=>124|224=>125|267=>126|266=>132|314=>139|n=>n,λ|9=>9|31=>37|3=>3|4=>4|0=>0|105=>178|21=>21|5=>5|46=>140|119=>194|139=>197|138=>196|146=>181|51=>180|n=>n,λ|1=>1|3=>5|4=>6|n=>n⟩
theorem Tryz.lays146:Go.Proofs.Lays.n146 Tryz.prog Tryz.lays146_ren:={
 mixed:=by kernel_rfl
 f138:=Tryz.func121.trans (congrArg some (by kernel_rfl))
 f143:=Tryz.func81.trans (congrArg some (by kernel_rfl))
 f146:=Tryz.func72.trans (congrArg some (by kernel_rfl))
 f195:=Tryz.func136.trans (congrArg some (by kernel_rfl))
 f197:=Tryz.func137.trans (congrArg some (by kernel_rfl))
 f217:=Tryz.func114.trans (congrArg some (by kernel_rfl))
 f218:=Tryz.func138.trans (congrArg some (by kernel_rfl))
 f219:=Tryz.func105.trans (congrArg some (by kernel_rfl))
 f221:=Tryz.func102.trans (congrArg some (by kernel_rfl))
 f224:=Tryz.func125.trans (congrArg some (by kernel_rfl))
 f225:=Tryz.func124.trans (congrArg some (by kernel_rfl))
 f260:=Tryz.func147.trans (congrArg some (by kernel_rfl))
 f266:=Tryz.func132.trans (congrArg some (by kernel_rfl))
 f267:=Tryz.func126.trans (congrArg some (by kernel_rfl))
 f268:=Tryz.func120.trans (congrArg some (by kernel_rfl))
 f314:=Tryz.func139.trans (congrArg some (by kernel_rfl))
 t0:=Tryz.underlying0
 a0:=Tryz.isAgg0
 z0:=Tryz.sizeOf0
 v0:=Tryz.zeroValue0
 t3:=U3
 a3:=Tryz.isAgg3
 z3:=Z3
 v3:=Tryz.zeroValue3
 t4:=Tryz.underlying4
 a4:=Tryz.isAgg4
 z4:=Z4
 v4:=Tryz.zeroValue4
 t5:=U5
 a5:=Tryz.isAgg5
 z5:=Z5
 v5:=Tryz.zeroValue5
 t9:=U9
 a9:=Tryz.isAgg9
 z9:=Z9
 v9:=Tryz.zeroValue9
 t21:=Tryz.underlying21
 a21:=Tryz.isAgg21
 z21:=Tryz.sizeOf21
 v21:=Tryz.zeroValue21
 t31:=U37
 a31:=Tryz.isAgg37
 z31:=Tryz.sizeOf37
 v31:=Tryz.zeroValue37
 t46:=Tryz.underlying140
 a46:=Tryz.isAgg140
 z46:=Tryz.sizeOf140
 v46:=Tryz.zeroValue140
 t51:=Tryz.underlying180
 a51:=Tryz.isAgg180
 z51:=Tryz.sizeOf180
 v51:=Tryz.zeroValue180
 t105:=Tryz.underlying178
 a105:=Tryz.isAgg178
 z105:=Tryz.sizeOf178
 v105:=Tryz.zeroValue178
 t119:=Tryz.underlying194
 a119:=Tryz.isAgg194
 z119:=Tryz.sizeOf194
 t138:=Tryz.underlying196
 a138:=Tryz.isAgg196
 z138:=Tryz.sizeOf196
 v138:=Tryz.zeroValue196
 t139:=Tryz.underlying197
 a139:=Tryz.isAgg197
 z139:=Tryz.sizeOf197
 v139:=Tryz.zeroValue197
 t146:=Tryz.underlying181
 a146:=Tryz.isAgg181
 z146:=Tryz.sizeOf181
 v146:=Tryz.zeroValue181
 g1:=by kernel_rfl
 g3:=by kernel_rfl
 g4:=by kernel_rfl}
open Go.RowKit Go.Lib in
theorem Tryz.strings_Split (s sep:ByteArray)(m:Int)(w:World)(hs:s.size<4294967281)(hm:w.cell? ⟨1,0,none⟩=some (.int .i64 m))(h1:1<=sep.size):
 Calls Tryz.prog 72 #[.string s,.string sep] w λe w'=>
  e=.returned (.slice (some ⟨w.heap.size,0,none⟩) (Lib.countB s sep+1) (Lib.countB s sep+1))∧w'=w.alloc (.cells ((Lib.splitB sep 0 (Lib.countB s sep) s).map Value.string).toArray 9):=Any.strings_Split Tryz.lays146 (by kernel_rfl) s sep m w hs hm h1
def Tryz.lays167_ren:Go.Shelf.Ren:=⟨λ|167=>91|165=>92|166=>66|169=>67|240=>97|241=>110|276=>113|277=>131|n=>n,λ|31=>37|9=>9|3=>3|4=>4|0=>0|20=>20|72=>110|76=>113|70=>108|37=>23|75=>112|127=>145|164=>155|5=>5|80=>116|n=>n,λ|n=>n⟩
theorem Tryz.lays166:Go.Proofs.Lays.n166 Tryz.prog Tryz.lays167_ren:={
 mixed:=by kernel_rfl
 f166:=Tryz.func66.trans (congrArg some (by kernel_rfl))
 f240:=Tryz.func97.trans (congrArg some (by kernel_rfl))
 f276:=Tryz.func113.trans (congrArg some (by kernel_rfl))
 t0:=Tryz.underlying0
 a0:=Tryz.isAgg0
 z0:=Tryz.sizeOf0
 v0:=Tryz.zeroValue0
 t3:=U3
 a3:=Tryz.isAgg3
 z3:=Z3
 v3:=Tryz.zeroValue3
 t4:=Tryz.underlying4
 a4:=Tryz.isAgg4
 z4:=Z4
 v4:=Tryz.zeroValue4
 t9:=U9
 a9:=Tryz.isAgg9
 z9:=Z9
 v9:=Tryz.zeroValue9
 t20:=Tryz.underlying20
 a20:=Tryz.isAgg20
 z20:=Tryz.sizeOf20
 v20:=Tryz.zeroValue20
 t37:=U23
 a37:=Tryz.isAgg23
 z37:=Z23
 v37:=Tryz.zeroValue23
 t70:=Tryz.underlying108
 a70:=Tryz.isAgg108
 z70:=Tryz.sizeOf108
 v70:=Tryz.zeroValue108
 t72:=Tryz.underlying110
 a72:=Tryz.isAgg110
 z72:=Tryz.sizeOf110
 v72:=Tryz.zeroValue110
 t75:=Tryz.underlying112
 a75:=Tryz.isAgg112
 z75:=Tryz.sizeOf112
 v75:=Tryz.zeroValue112
 t164:=Tryz.underlying155
 a164:=Tryz.isAgg155
 z164:=Tryz.sizeOf155
 v164:=Tryz.zeroValue155}
theorem Tryz.lays167:Go.Proofs.Lays.n167 Tryz.prog Tryz.lays167_ren:={
 mixed:=by kernel_rfl
 f167:=Tryz.func91.trans (congrArg some (by kernel_rfl))
 f240:=Tryz.func97.trans (congrArg some (by kernel_rfl))
 f276:=Tryz.func113.trans (congrArg some (by kernel_rfl))
 t0:=Tryz.underlying0
 a0:=Tryz.isAgg0
 z0:=Tryz.sizeOf0
 v0:=Tryz.zeroValue0
 t4:=Tryz.underlying4
 a4:=Tryz.isAgg4
 z4:=Z4
 v4:=Tryz.zeroValue4
 t5:=U5
 a5:=Tryz.isAgg5
 z5:=Z5
 v5:=Tryz.zeroValue5
 t9:=U9
 a9:=Tryz.isAgg9
 z9:=Z9
 v9:=Tryz.zeroValue9
 t20:=Tryz.underlying20
 a20:=Tryz.isAgg20
 z20:=Tryz.sizeOf20
 v20:=Tryz.zeroValue20
 t37:=U23
 a37:=Tryz.isAgg23
 z37:=Z23
 v37:=Tryz.zeroValue23
 t70:=Tryz.underlying108
 a70:=Tryz.isAgg108
 z70:=Tryz.sizeOf108
 v70:=Tryz.zeroValue108
 t72:=Tryz.underlying110
 a72:=Tryz.isAgg110
 z72:=Tryz.sizeOf110
 v72:=Tryz.zeroValue110
 t75:=Tryz.underlying112
 a75:=Tryz.isAgg112
 z75:=Tryz.sizeOf112
 v75:=Tryz.zeroValue112
 t164:=Tryz.underlying155
 a164:=Tryz.isAgg155
 z164:=Tryz.sizeOf155
 v164:=Tryz.zeroValue155}
theorem Tryz.Builder_Extra_167:Builder.Extra Tryz.prog Tryz.lays167_ren:={
 sizeBuilder:=by kernel_rfl
 liesBuilder:=by kernel_rfl
 t5:=U5
 a5:=Tryz.isAgg5
 z5:=Z5
 v5:=Tryz.zeroValue5
 infoByte:=by kernel_rfl
 cellsByte:=by kernel_rfl
 sizeByte:=by kernel_rfl
 neB5:=by decide}
open Go.RowKit in
theorem Tryz.Builder_WriteByte (B b:Nat)(bs:List Value)(c:Int)(w:World)(h:Lib.IsBuilder 110 5 B b bs w)(hlen:bs.length+1<=140737488355328)(hBw:B<=w.heap.size):
 Calls Tryz.prog 91 #[.pointer (some ⟨b,0,none⟩),.int .u8 c] w λe w'=>e=.returned .nilIface∧(Lib.BuilderAt 110 5 B b (.pointer (some ⟨b,0,none⟩)) (bs++[.int .u8 c]) w'∧Below B w w'):=Any.Builder_WriteByte Tryz.lays167 Tryz.Builder_Extra_167 B b bs c w h hlen hBw
open Go.RowKit in
theorem Tryz.Builder_WriteString (B b:Nat)(bs:List Value)(s:ByteArray)(w:World)(h:Lib.IsBuilder 110 5 B b bs w)(hlen:bs.length+s.size<=140737488355328)(hBw:B<=w.heap.size):
 Calls Tryz.prog 66 #[.pointer (some ⟨b,0,none⟩),.string s] w λe w'=>e=.returned (.tuple #[.int .i64 s.size,.nilIface])∧(Lib.BuilderAt 110 5 B b (.pointer (some ⟨b,0,none⟩)) (bs++Lib.strCells s) w'∧Below B w w'):=Any.Builder_WriteString Tryz.lays166 Tryz.Builder_Extra_167 B b bs s w h hlen hBw
end Go.Proofs
end
section
namespace Go.Pn
open Go.RowKit
theorem OwnF.lst {α:Type}{G:Flat α}{ty:TypeId}{B:Nat}{w:World}{v:Value}{xs ys:List α}(h:OwnF G ty B w v xs)(e:xs=ys):OwnF G ty B w v ys:=e ▸ h
end Go.Pn
end
section
namespace Go.Proofs.YtbnblcnabgdndaaGreatDoor
open Go.Pn Go.RowKit Go.Proofs _root_.Go.Proofs.Tryz
attribute [local irreducible] O C D
theorem inf5:∃ie,prog.info? 5=some ie∧ie.size=1∧ie.bytes=1∧ie.zero=some (.int .u8 0):=by
 have h:(prog.info? 5).isSome=true:=by kernel_rfl
 exact ⟨(prog.info? 5).get h,(Option.some_get h).symm,by kernel_rfl,by kernel_rfl,by kernel_rfl⟩
theorem inf23:∃ie,prog.info? 23=some ie∧ie.size=1∧ie.bytes=24∧ie.zero=some (.slice none 0 0):=by
 have h:(prog.info? 23).isSome=true:=by kernel_rfl
 exact ⟨(prog.info? 23).get h,(Option.some_get h).symm,by kernel_rfl,by kernel_rfl,by kernel_rfl⟩
theorem number_spec (n:BitVec 64)(w:World):
 Ret prog 79 #[.int .u64 ((n).toNat:Int)] w (λv w'=>Le w w'∧OwnF byteF 5 w.heap.size w' v (Cn.num n.toNat)):=by
 obtain ⟨ie5,ti5,ts5,tb5,tz5⟩:=inf5;refine enT [.int .u64 ((n).toNat:Int)] 19 func79 rfl rfl (C.sr λK1=>O.j (K1 (C.sr λK2=>O.j (K2 (C.sq λK3=>C.bl λK4=>C.loop0 (σ:=BitVec 64×Value×List UInt8) (λf0 w0 ⟨m,o,xs⟩ f wz=>f 0=.int .u64 ((m).toNat:Int)∧f 3=o∧f 2=f0 2∧Le w wz∧OwnF byteF 5 w.heap.size wz o (xs)∧xs++Cn.num m.toNat=Cn.num n.toNat) (λ⟨m,o,xs⟩=>m.toNat) (n,.slice none 0 0,[]) ?_ ?_)))))
 ·
  refine ⟨rfl,rfl,rfl,leR,(OwnF.nil _ _ _ _),?_⟩
  rfl
 rintro ⟨m,o,xs⟩ f_1 w1 ⟨s0_1,s3_1,s2_1,e_1,r0_1,hI⟩;have z_1:=e_1.size;have r0_1s:=r0_1.sl;have hxl:xs.length<=10:=by
  have h1:=Cn.num_u n;rw[<-hI,List.length_append] at h1
  omega
 refine C.sq λK5=>C.sr λK6=>O.mv (O.geqU (m:=64) (b:=128#64) s0_1 rfl (K6 (C.condD rfl (λc5=>?_) (λc5=>?_))))
 ·
  have hs5:¬m.toNat<128:=by simpa[BitVec.le_def,BitVec.lt_def] using c5
  refine C.skip (K5 (C.sq λK7=>C.bl λK8=>C.region (O.mv (O.mv (O.convUU (m:=64) (m':=8) U76 U5 rfl rfl s0_1 (O.orU (m:=8) (b:=128#8) rfl rfl rfl rfl (O.lit1 U23 ti5 ts5 tz5 rfl rfl (λb12 w2 hb12 hz12 e2=>?_))))))));have z2:=e2.size;have h12:=hz12.own;have hl12:=h12.lt;refine O.appF (G:=byteF) U23 ti5 tz5 ts5 rfl s3_1 rfl (r0_1.L e2) (Sl.one (G:=byteF) (x:=UInt8.ofBitVec (m.setWidth 8|||128#8)) h12 rfl rfl) (by rw[tb5];simp;omega) (by unfold maxLen;simp;omega) (by omega) (λv13 w3 h13 e3=>?_);have z3:=e3.size;have h13s:=h13.sl;refine O.j (O.o (K8 (K7 (C.region (O.mv (O.shrU (m:=64) (c:=7) rfl rfl s0_1 rfl (O.j (O.o (⟨(m>>>7,_,_),⟨rfl,rfl,s2_1,(Ext.new (Ext.T e_1 e2) e3 (by intro i hi h;have:=(r0_1.L e2).bk_ge i h;omega)),h13,?_⟩,by show (m>>>7).toNat<m.toNat;rw[BitVec.toNat_ushiftRight,Nat.shiftRight_eq_div_pow];omega⟩)))))))));rw[<-hI,Cn.num_step hs5,List.append_assoc]
  rfl
 have hs5:m.toNat<128:=by simpa[BitVec.le_def,BitVec.lt_def] using c5
 refine C.exit (K4 (K3 (C.sr λK9=>O.mv (O.mv (O.convUU (m:=64) (m':=8) U76 U5 rfl rfl s0_1 (O.lit1 U23 ti5 ts5 tz5 rfl rfl (λb17 w4 hb17 hz17 e4=>?_)))))));have z4:=e4.size;have h17:=hz17.own;have hl17:=h17.lt;refine O.appF (G:=byteF) U23 ti5 tz5 ts5 rfl s3_1 rfl (r0_1.L e4) (Sl.one (G:=byteF) (x:=UInt8.ofBitVec (m.setWidth 8)) h17 rfl rfl) (by rw[tb5];simp;omega) (by unfold maxLen;simp;omega) (by omega) (λv18 w5 h18 e5=>?_);have z5:=e5.size;have h18s:=h18.sl;refine O.j (K9 (C.ret (Outs.one rfl rfl ?_)));exact ⟨(Ext.new (Ext.T e_1 e4) e5 (by intro i hi h;have:=(r0_1.L e4).bk_ge i h;omega)),h18.lst (by rw[<-hI,Cn.num_last hs5])⟩
theorem grow_spec (m:Nat)(w:World)(hm:m<=139000000000000):
 Ret prog 123 #[.slice none 0 0,.int .i64 ((m:Int))] w (λv w'=>Le w w'∧OwnF byteF 5 w.heap.size w' v ([])):=by
 obtain ⟨ie5,ti5,ts5,tb5,tz5⟩:=inf5;refine enT [.slice none 0 0,.int .i64 ((m:Int))] 27 func123 rfl rfl (C.sr λK1=>O.j (K1 (C.sq λK2=>C.sr λK3=>O.mv (O.lssI rfl rfl (O.cast (v':=.bool false) (cB (by exact dF (by omega))) (K3 (C.condF rfl (C.skip (K2 (C.sq λK4=>C.sr λK5=>O.mv (O.mv (O.capL U23 rfl (O.mv (O.lenL U23 rfl (O.sb rfl rfl (O.sb rfl rfl (O.cast (v':=.int .i64 (m:Int)) (cI (by omega)) (O.j (K5 (C.sr λK6=>O.mv (O.gtrI rfl rfl (K6 (C.condD rfl (λc16=>?_) (λc16=>?_))))))))))))))))))))))))
 ·
  have hm0:0<m:=by omega
  refine C.region (O.mv (O.mv (O.capL U23 rfl (O.subNil U23 Z5 rfl rfl (O.mv (O.appZ (G:=byteF) (zx:=(0:UInt8)) (m:=m) U23 U3 ti5 tz5 ts5 rfl rfl rfl (by omega) (by rw[tb5];omega) (by unfold maxLen;omega) (Nat.le_refl _) (λb22 cap22 w1 hb22 hcap22 h22 e1=>?_)))))));have z1:=e1.size;have h22s:=h22.sl;refine O.mv (O.lenL U23 rfl (O.subLo U23 Z5 rfl rfl (by omega) (by omega) (O.j (O.o (K4 (C.sr λK7=>O.mv (O.j (K7 (C.ret (Outs.one rfl rfl ?_))))))))))
  first
  |(have hf:=h22
    have hq:(List.replicate m (0:UInt8)).length=m:=by simp
    rw[show Value.slice (some ⟨b22,0,none⟩) m cap22=Value.slice (some ⟨b22,0,none⟩) (List.replicate m (0:UInt8)).length cap22 from by rw[hq]] at hf;exact ⟨e1,((hf.first (k:=0) (Nat.zero_le _)).low (by omega)).lst rfl⟩)
  |exact ⟨e1,OwnF.nil _ _ _ _⟩
 refine C.skip (K4 (C.sr λK8=>O.mv (O.j (K8 (C.ret (Outs.one rfl rfl ?_))))))
 first
 |(have hf:={app:22}
   have hq:(List.replicate m (0:UInt8)).length=m:=by simp
   rw[show Value.slice (some ⟨b22,0,none⟩) m cap22=Value.slice (some ⟨b22,0,none⟩) (List.replicate m (0:UInt8)).length cap22 from by rw[hq]] at hf;exact ⟨leR,((hf.first (k:=0) (Nat.zero_le _)).low (by omega)).lst rfl⟩)
 |exact ⟨leR,OwnF.nil _ _ _ _⟩
theorem concat_spec (v0:Value)(ps:List (List UInt8))(F:Nat->Prop)(w:World)(hl:Sl (sliE byteE) w F v0 ps)(hn:ps.flatten.length<=139000000000000):
 Ret prog 104 #[v0] w (λv w'=>Le w w'∧OwnF byteF 5 w.heap.size w' v (ps.flatten)):=by
 have hle:=hl.le;obtain ⟨ie5,ti5,ts5,tb5,tz5⟩:=inf5;refine enT [v0] 36 func104 rfl rfl (C.sr λK1=>O.j (K1 (C.sr λK2=>O.j (K2 (C.sq λK3=>C.sr λK4=>O.mv (O.len U46 rfl hl (O.mv (K4 (C.bl λK5=>C.loop0 (σ:=Nat) (λf0 w0 k f wz=>f 3=.int .i64 (((ps.take k).flatten.length:Nat))∧f 11=.int .i64 (k)∧f 0=f0 0∧f 2=f0 2∧f 9=f0 9∧f 10=f0 10∧Le w wz∧k<=ps.length) (λk=>ps.length-k) 0 ?_ ?_)))))))))
 ·
  refine ⟨rfl,rfl,rfl,rfl,rfl,rfl,leR,?_⟩;exact Nat.zero_le _
 rintro k f_1 w1 ⟨s3_1,s11_1,s0_1,s2_1,s9_1,s10_1,e_1,hk⟩;have z_1:=e_1.size;refine C.sr λK6=>O.lssI s11_1 s10_1 (K6 (C.sq λK7=>C.condD rfl (λc12=>?_) (λc12=>?_)))
 ·
  have hk2:k<ps.length:=by omega
  have hfk:=Cn.flatten_take_le ps (k+1);refine C.skip (K7 (C.sq λK8=>C.bl λK9=>C.sr λK10=>O.idx U46 Z23 rfl s9_1 (hl.L e_1) s11_1 (by omega) (λa13 h13=>O.loadSl isAgg23 rfl h13 (λv14 h14=>O.j (K10 (C.sr λK11=>O.mv (O.mv (O.len U23 rfl h14 (O.addI s3_1 rfl (by have h9:=Cn.flatten_take hk2;have h8:(ps.take (k+1)).flatten.length=(ps.take k).flatten.length+ps[k].length:=(by rw[h9,List.length_append]);simp only[Int.toNat_natCast];unfold InI;omega) ?_)))))))));refine O.cast (v':=.int .i64 (((ps.take (k+1)).flatten.length:Nat):Int)) (cI (by rw[Cn.flatten_take hk2,List.length_append,Int.natCast_add];rfl)) (O.j (K11 (C.sr λK12=>O.mv (O.lssI rfl rfl (O.cast (v':=.bool false) (cB (by exact dF (by omega))) (K12 (C.condF rfl (C.skip (K9 (K8 (C.region (O.ad s11_1 rfl (O.mv (O.o (⟨k+1,⟨rfl,rfl,s0_1,s2_1,s9_1,s10_1,e_1,?_⟩,by first|omega|(simp only[];omega)⟩)))))))))))))))
  omega
 have hfk:=Cn.flatten_take_le ps k;refine C.exit (K5 (K3 (C.sr λK13=>O.mv (O.call call123 (args2 rfl s3_1) (grow_spec _ _ (by omega)) ?_))));rintro v_24 w2 ⟨e2,h24⟩;have z2:=e2.size;have h24s:=h24.sl;refine O.j (K13 (C.sq λK14=>C.sr λK15=>O.mv (O.len U46 s0_1 ((hl.L e_1).L e2) (O.mv (K15 (C.bl λK16=>C.loop0 (σ:=Nat×Value) (λf0 w0 ⟨k,o⟩ f wz=>f 6=o∧f 27=.int .i64 (k)∧f 2=f0 2∧f 25=f0 25∧f 26=f0 26∧Le w wz∧OwnF byteF 5 w.heap.size wz o ((ps.take k).flatten)∧k<=ps.length) (λ⟨k,o⟩=>ps.length-k) (0,v_24) ?_ ?_))))))
 ·
  refine ⟨rfl,rfl,rfl,rfl,rfl,(Ext.T e_1 e2),(h24.low (by omega)),?_⟩;exact Nat.zero_le _
 rintro ⟨k,o⟩ f_2 w3 ⟨s6_2,s27_2,s2_2,s25_2,s26_2,e_2,r0_2,hk⟩;have z_2:=e_2.size;have r0_2s:=r0_2.sl;refine C.sr λK17=>O.lssI s27_2 s26_2 (K17 (C.sq λK18=>C.condD rfl (λc28=>?_) (λc28=>?_)))
 ·
  have hk2:k<ps.length:=by omega
  have hfk:=Cn.flatten_take_le ps (k+1);rw[Cn.flatten_take hk2,List.length_append] at hfk;refine C.skip (K18 (C.sq λK19=>C.bl λK20=>C.sr λK21=>O.idx U46 Z23 rfl (Eq.trans s25_2 s0_1) (hl.L e_2) s27_2 (by omega) (λa29 h29=>O.loadSl isAgg23 rfl h29 (λv30 h30=>O.j (K21 (C.region (O.mv (O.mv (O.appF (G:=byteF) U23 ti5 tz5 ts5 rfl s6_2 rfl r0_2 h30 (by rw[tb5];simp only[Int.toNat_natCast];omega) (by unfold maxLen;simp only[Int.toNat_natCast];omega) (by omega) (λv33 w4 h33 e4=>?_))))))))));have z4:=e4.size;have h33s:=h33.sl;refine O.j (O.o (K20 (K19 (C.region (O.ad s27_2 rfl (O.mv (O.o (⟨(k+1,_),⟨rfl,rfl,s2_2,s25_2,s26_2,(Ext.new e_2 e4 (by intro i hi h;have:=r0_2.bk_ge i h;omega)),(h33.lst (Cn.flatten_take hk2).symm),?_⟩,by first|omega|(simp only[];omega)⟩))))))))
  omega
 refine C.exit (K16 (K14 (C.sr λK22=>O.mv (O.j (K22 (C.ret (Outs.one rfl s6_2 ?_)))))));obtain rfl:k=ps.length:=by omega
 rw[List.take_length] at r0_2;exact ⟨e_2,r0_2⟩
theorem hgw_of {v:Value}{bw:Nat}(h:∀k,bk v k->k≠bw):bk v bw->False:=λq=>h bw q rfl
theorem ones3 {v v':Value}(h:v.oneCell'=true)(h':v'.oneCell'=true):∀u∈[v,v'],u.oneCell'=true:=by
 intro u hu;simp only[List.mem_cons,List.not_mem_nil,or_false] at hu;rcases hu with rfl|rfl
 ·exact h
 ·exact h'
theorem write_spec (bw g:Nat)(xs:List UInt8)(v1:Value)(ps:List (List UInt8))(F:Nat->Prop)(w:World)(hw:Wr 69 5 w bw g (xs))(hp:Sl (sliE byteE) w F v1 ps)(hx:xs.length<=138000000000000)(hn:ps.flatten.length<=1000000000000):
 Ret prog 78 #[.pointer (some ⟨bw,0,none⟩),v1] w (λv w'=>v=.tuple #[]∧∃g',Wr 69 5 w' bw g' (xs++(ps.flatten))∧(g'=g∨g'=bw∨w.heap.size<=g')∧(bw<w'.heap.size∧g'<w'.heap.size)∧Ext (λk=>k=bw∨k=g) w w'):=by
 obtain ⟨vw,hb,ho,hg,hgb⟩:=hw.cell;have hwl:=hw.lt;have hgw:=hgw_of hgb;obtain ⟨ie5,ti5,ts5,tb5,tz5⟩:=inf5;refine enT [.pointer (some ⟨bw,0,none⟩),v1] 16 func78 rfl rfl (C.sr λK1=>O.mv (O.neqP0 underlying125 rfl (K1 (C.condT rfl (C.drawB (wB:=(bare w)) (by kernel_rfl) λw1 e1=>?_)))));have z1:=e1.size;refine D.mv 0 rfl (Ext.bare (Ext.nt (Ext.L (λ_=>True) _) e1)) (D.mv 1 rfl (Ext.bare (Ext.nt (Ext.L (λ_=>True) _) e1)) (D.tk 2 rfl rfl rfl rfl (Ext.bare (Ext.nt (Ext.L (λ_=>True) _) e1)) (nil_form rfl) (λ_ hw_ _ hN=>O.nilChk rfl (O.o hN)) (D.t 3 rfl (Ext.bare (Ext.nt (Ext.L (λ_=>True) _) e1)) (λ_ _ _ hN=>O.fa U69 rfl Z23 rfl (O.o hN)) (D.mv 5 rfl (Ext.bare (Ext.nt (Ext.L (λ_=>True) _) e1)) (D.many [4,6] (by kernel_rfl) (by decide) ⟨?_,?_,trivial⟩)))))
 ·
  refine D.stepU rfl rfl (O.loadO isAgg23 rfl (hb.L e1) rfl (O.o ⟨(Ext.bare (Ext.nt (Ext.L (λ_=>True) _) e1)),D.on 6 rfl rfl (O.call call104 (args1 rfl) (concat_spec _ ps _ _ (hp.L e1) (by omega)) ?_)⟩));rintro v_12 w2 ⟨e2,h12⟩;have z2:=e2.size;refine O.o ⟨(Ext.bare (Ext.nt (Ext.nt (Ext.L (λ_=>True) _) e1) e2)),?_⟩;have h12s:=h12.sl;refine D.on 7 rfl rfl (O.appW (G:=byteF) U23 ti5 tz5 ts5 rfl rfl rfl ((ho.L e1).L e2) h12s (by rw[tb5];omega) (by unfold maxLen;omega) (Nat.zero_le _) (λv13 w3 h13 e3 hw13=>?_));have e3m:Ext (λk=>k=g) w2 w3:=e3.mono (λk _ hk=>hg k hk);have z3:=e3.size;have h13s:=h13.sl;refine O.o ⟨(Ext.bare (Ext.nt (Ext.nt (Ext.nt (Ext.L (λ_=>True) _) e1) e2) e3)),?_⟩;have hput:∀k,bk v13 k->k≠bw:=by
   intro k hk h0;rcases hw13 k hk with q|q
   ·exact hgb k q h0
   ·omega
  refine D.tk 8 rfl rfl rfl rfl (Ext.bare (Ext.nt (Ext.nt (Ext.nt (Ext.L (λ_=>True) _) e1) e2) e3)) (nil_form rfl) (λ_ hw_ _ hN=>O.nilChk rfl (O.o hN)) (D.t 9 rfl (Ext.bare (Ext.nt (Ext.nt (Ext.nt (Ext.L (λ_=>True) _) e1) e2) e3)) (λ_ _ _ hN=>O.fa U69 rfl Z23 rfl (O.o hN)) (D.on 10 rfl rfl (O.store Z23 rfl rfl h13.one (((hb.L e1).L e2).kM e3 (λh=>hgw h)) (by simp) (λw4 hs4 e4 z4=>?_))))
  try simp only[Nat.zero_add] at hs4
  refine O.o ⟨(Ext.bare (Ext.nt (Ext.nt (Ext.nt (Ext.nt (Ext.L (λ_=>True) _) e1) e2) e3) e4)),D.dn (Outs.none rfl ?_)⟩;obtain ⟨g',hq,hgp⟩:=Wr.put (ty:=69) hs4 (h13.kM e4 (λk hk h=>hput k hk h)) hput;refine ⟨rfl,g',hq,?_,hq.lt,(Ext.nw (Ext.nw (Ext.nw (Ext.nw (Ext.L _ _) e1) e2) e3m) e4)⟩;rcases hgp with ⟨q,_⟩|q
  ·rcases hw13 g' q with q2|q2
   ·exact .inl (hg g' q2)
   ·exact .inr (.inr (by omega))
  ·exact .inr (.inl q)
 refine D.stepU rfl rfl (O.call call104 (args1 rfl) (concat_spec _ ps _ _ (hp.L e1) (by omega)) ?_);rintro v_12 w5 ⟨e5,h12⟩;have z5:=e5.size;refine O.o ⟨(Ext.bare (Ext.nt (Ext.nt (Ext.L (λ_=>True) _) e1) e5)),?_⟩;have h12s:=h12.sl;refine D.on 4 rfl rfl (O.loadO isAgg23 rfl ((hb.L e1).L e5) rfl (O.o ⟨(Ext.bare (Ext.nt (Ext.nt (Ext.L (λ_=>True) _) e1) e5)),D.on 7 rfl rfl (O.appW (G:=byteF) U23 ti5 tz5 ts5 rfl rfl rfl ((ho.L e1).L e5) h12s (by rw[tb5];omega) (by unfold maxLen;omega) (Nat.zero_le _) (λv13 w6 h13 e6 hw13=>?_))⟩));have e6m:Ext (λk=>k=g) w5 w6:=e6.mono (λk _ hk=>hg k hk);have z6:=e6.size;have h13s:=h13.sl;refine O.o ⟨(Ext.bare (Ext.nt (Ext.nt (Ext.nt (Ext.L (λ_=>True) _) e1) e5) e6)),?_⟩;have hput:∀k,bk v13 k->k≠bw:=by
  intro k hk h0;rcases hw13 k hk with q|q
  ·exact hgb k q h0
  ·omega
 refine D.tk 8 rfl rfl rfl rfl (Ext.bare (Ext.nt (Ext.nt (Ext.nt (Ext.L (λ_=>True) _) e1) e5) e6)) (nil_form rfl) (λ_ hw_ _ hN=>O.nilChk rfl (O.o hN)) (D.t 9 rfl (Ext.bare (Ext.nt (Ext.nt (Ext.nt (Ext.L (λ_=>True) _) e1) e5) e6)) (λ_ _ _ hN=>O.fa U69 rfl Z23 rfl (O.o hN)) (D.on 10 rfl rfl (O.store Z23 rfl rfl h13.one (((hb.L e1).L e5).kM e6 (λh=>hgw h)) (by simp) (λw7 hs7 e7 z7=>?_))))
 try simp only[Nat.zero_add] at hs7
 refine O.o ⟨(Ext.bare (Ext.nt (Ext.nt (Ext.nt (Ext.nt (Ext.L (λ_=>True) _) e1) e5) e6) e7)),D.dn (Outs.none rfl ?_)⟩;obtain ⟨g',hq,hgp⟩:=Wr.put (ty:=69) hs7 (h13.kM e7 (λk hk h=>hput k hk h)) hput;refine ⟨rfl,g',hq,?_,hq.lt,(Ext.nw (Ext.nw (Ext.nw (Ext.nw (Ext.L _ _) e1) e5) e6m) e7)⟩;rcases hgp with ⟨q,_⟩|q
 ·rcases hw13 g' q with q2|q2
  ·exact .inl (hg g' q2)
  ·exact .inr (.inr (by omega))
 ·exact .inr (.inl q)
theorem wnum_spec (bw g:Nat)(xs:List UInt8)(n:BitVec 64)(w:World)(hw:Wr 69 5 w bw g (xs))(hx:xs.length<=136000000000000):
 Ret prog 38 #[.pointer (some ⟨bw,0,none⟩),.int .u64 ((n).toNat:Int)] w (λv w'=>v=.tuple #[]∧∃g',Wr 69 5 w' bw g' (xs++(Cn.num n.toNat))∧(g'=g∨g'=bw∨w.heap.size<=g')∧(bw<w'.heap.size∧g'<w'.heap.size)∧Ext (λk=>k=bw∨k=g) w w'):=by
 have hwl:=hw.lt;obtain ⟨ie23,ti23,ts23,tb23,tz23⟩:=inf23;refine enT [.pointer (some ⟨bw,0,none⟩),.int .u64 ((n).toNat:Int)] 9 func38 rfl rfl (C.region (O.mv (O.mv (O.call call79 (args1 rfl) (number_spec n _) ?_))));rintro v_6 w1 ⟨e1,h6⟩;have z1:=e1.size;have h6s:=h6.sl;replace h6:=h6;refine O.lit1 U46 ti23 ts23 tz23 rfl h6.one (λb7 w2 hb7 hz7 e2=>?_);have z2:=e2.size;have h7:=hz7.own;have hl7:=h7.lt;refine O.call call78 (args2 rfl rfl) (write_spec bw g xs _ [Cn.num n.toNat] _ _ ((hw.L e1).L e2) (Sl.lits1 h7 (h6s.L e2)) (by omega) (by have:=Cn.num_u n;simp;omega)) ?_;rintro v_8 w3 ⟨rfl,gv8,hv8,hgv8,hlv8,e3⟩;have z3:=e3.size;refine O.o (Outs.none rfl ?_);exact ⟨rfl,gv8,by simpa using hv8,by omega,hlv8,(Ext.nw (Ext.nw (Ext.nw (Ext.L _ _) e1) e2) e3)⟩
theorem wput_spec (bw g:Nat)(xs:List UInt8)(v1:Value)(ys:List UInt8)(F:Nat->Prop)(w:World)(hw:Wr 69 5 w bw g (xs))(hx:xs.length<=136000000000000)(hy:Sl byteE w F v1 ys)(hn:ys.length<=10000000):
 Ret prog 36 #[.pointer (some ⟨bw,0,none⟩),v1] w (λv w'=>v=.tuple #[]∧∃g',Wr 69 5 w' bw g' (xs++(ys))∧(g'=g∨g'=bw∨w.heap.size<=g')∧(bw<w'.heap.size∧g'<w'.heap.size)∧Ext (λk=>k=bw∨k=g) w w'):=by
 have hwl:=hw.lt;obtain ⟨ie23,ti23,ts23,tb23,tz23⟩:=inf23;refine enT [.pointer (some ⟨bw,0,none⟩),v1] 8 func36 rfl rfl (C.region (O.mv (O.mv (O.lit1 U46 ti23 ts23 tz23 rfl hy.oneC (λb6 w1 hb6 hz6 e1=>?_)))));have z1:=e1.size;have h6:=hz6.own;have hl6:=h6.lt;refine O.call call78 (args2 rfl rfl) (write_spec bw g xs _ [ys] _ _ (hw.L e1) (Sl.lits1 h6 (hy.L e1)) (by omega) (by simp;omega)) ?_;rintro v_7 w2 ⟨rfl,gv7,hv7,hgv7,hlv7,e2⟩;have z2:=e2.size;refine O.o (Outs.none rfl ?_);exact ⟨rfl,gv7,by simpa using hv7,by omega,hlv7,(Ext.nw (Ext.nw (Ext.L _ _) e1) e2)⟩
theorem wstr_spec (bw g:Nat)(xs:List UInt8)(s:List UInt8)(w:World)(hw:Wr 69 5 w bw g (xs))(hx:xs.length<=136000000000000)(hn:s.length<=1000000):
 Ret prog 37 #[.pointer (some ⟨bw,0,none⟩),str (s)] w (λv w'=>v=.tuple #[]∧∃g',Wr 69 5 w' bw g' (xs++(Cn.strB s))∧(g'=g∨g'=bw∨w.heap.size<=g')∧(bw<w'.heap.size∧g'<w'.heap.size)∧Ext (λk=>k=bw∨k=g) w w'):=by
 have hwl:=hw.lt;obtain ⟨ie23,ti23,ts23,tb23,tz23⟩:=inf23;refine enT [.pointer (some ⟨bw,0,none⟩),str (s)] 13 func37 rfl rfl (C.region (O.mv (O.mv (O.lenS U9 rfl (O.convIU (m':=64) U3 U76 rfl rfl rfl (O.call call79 (args1 rfl) (number_spec (BitVec.ofInt 64 (s.length:Int)) _) ?_))))));rintro v_8 w1 ⟨e1,h8⟩;have z1:=e1.size;have h8s:=h8.sl;refine O.mv (O.strB U9 U23 U5 rfl (by unfold maxLen;omega) (λb10 cap10 w2 hb10 hc10 h10 hs10 e2=>?_));have z2:=e2.size;refine O.litn [v_8,.slice (some ⟨b10,0,none⟩) s.length cap10] U46 ti23 ts23 tz23 rfl (by decide) (by decide) rfl (ones3 h8.one rfl) (λb11 w3 hb11 hz11 e3=>?_);have z3:=e3.size;have h11:=hz11.own;have hl11:=h11.lt;refine O.call call78 (args2 rfl rfl) (write_spec bw g xs _ [Cn.num (BitVec.ofInt 64 (s.length:Int)).toNat,s] _ _ (((hw.L e1).L e2).L e3) (Sl.lits2 h11 ((h8s.L e2).L e3) (hs10.L e3)) (by omega) (by have:=Cn.num_u (BitVec.ofInt 64 (s.length:Int));simp only[List.flatten_cons,List.flatten_nil,List.length_append,List.length_nil];omega)) ?_;rintro v_12 w4 ⟨rfl,gv12,hv12,hgv12,hlv12,e4⟩;have z4:=e4.size;refine O.o (Outs.none rfl (⟨rfl,gv12,hv12.lst ?_,by omega,hlv12,(Ext.nw (Ext.nw (Ext.nw (Ext.nw (Ext.L _ _) e1) e2) e3) e4)⟩));unfold Cn.strB;rw[Cn.u_def,Cn.u_nat (by omega)]
 simp
theorem cloneB_spec (v0:Value)(l:List UInt8)(F:Nat->Prop)(w:World)(hl:Sl byteE w F v0 l)(hn:l.length<=139000000000000):
 Ret prog 80 #[v0] w (λv w'=>Le w w'∧OwnF byteF 5 w.heap.size w' v (l)):=by
 have hle:=hl.le;obtain ⟨ie5,ti5,ts5,tb5,tz5⟩:=inf5;refine enT [v0] 8 func80 rfl rfl (C.sr λK1=>O.j (K1 (C.sq λK2=>C.sr λK3=>O.mv (O.eqlNilS U23 rfl hl (K3 (C.cond rfl (λc4=>?_) (λc4=>?_)))))))
 ·
  refine C.sr λK4=>O.j (K4 (C.ret (Outs.one rfl rfl ?_)))
  first
  |(obtain rfl:=isNilS_nil hl c4
    exact ⟨leR,OwnF.nil _ _ _ _⟩)
  |exact ⟨leR,{app:7}⟩
 refine C.skip (K2 (C.sr λK5=>O.lit0 U23 ti5 (λb5 w1 hb5 hz5 e1=>?_)));have z1:=e1.size;have hl5:=hz5.own.lt;have h1005:OwnF byteF 5 w.heap.size w1 _ []:=OwnF.lit0 hz5 hb5;refine O.mv (O.appF (G:=byteF) U23 ti5 tz5 ts5 rfl rfl rfl h1005 (hl.L e1) (by rw[tb5];simp;omega) (by unfold maxLen;simp;omega) (by omega) (λv7 w2 h7 e2=>?_));have z2:=e2.size;have h7s:=h7.sl;refine O.j (K5 (C.ret (Outs.one rfl rfl ?_)))
 first
 |(obtain rfl:=isNilS_nil hl c4
   exact ⟨(Ext.new e1 e2 (by intro i hi h;have:=h1005.bk_ge i h;omega)),OwnF.nil _ _ _ _⟩)
 |exact ⟨(Ext.new e1 e2 (by intro i hi h;have:=h1005.bk_ge i h;omega)),h7⟩
theorem wbytes_spec (bw g:Nat)(xs:List UInt8)(w:World)(hw:Wr 69 5 w bw g (xs))(hx:xs.length<=139000000000000):
 Ret prog 39 #[.pointer (some ⟨bw,0,none⟩)] w (λv w'=>Le w w'∧OwnF byteF 5 w.heap.size w' v (xs)):=by
 obtain ⟨vw,hb,ho,hg,hgb⟩:=hw.cell;have hsl:=ho.sl;refine enT [.pointer (some ⟨bw,0,none⟩)] 10 func39 rfl rfl (C.sr λK1=>O.j (K1 (C.sq λK2=>C.sr λK3=>O.mv (O.eqlP0 underlying125 rfl (K3 (C.condF rfl (C.skip (K2 (C.sr λK4=>O.mv (O.nilChk rfl (O.fa U69 rfl Z23 rfl (O.loadO isAgg23 rfl hb rfl (O.call call80 (args1 rfl) (cloneB_spec _ xs _ _ hsl hx) ?_)))))))))))));rintro v_9 w1 ⟨e1,h9⟩;have z1:=e1.size;refine O.j (K4 (C.ret (Outs.one rfl rfl ?_)));exact ⟨e1,h9.low (by omega)⟩
theorem rnum_a_spec (n:BitVec 64)(w:World)(ih:∀m:BitVec 64,m.toNat<n.toNat->∀w:World,Ret prog 49 #[.int .u64 (m.toNat:Int)] w (λv w'=>Le w w'∧OwnF byteF 5 w.heap.size w' v (Cn.num m.toNat))):
 Ret prog 49 #[.int .u64 ((n).toNat:Int)] w (λv w'=>Le w w'∧OwnF byteF 5 w.heap.size w' v (Cn.num n.toNat)):=by
 obtain ⟨ie5,ti5,ts5,tb5,tz5⟩:=inf5;refine enT [.int .u64 ((n).toNat:Int)] 17 func49 rfl rfl (C.sr λK1=>O.j (K1 (C.sq λK2=>C.sr λK3=>O.mv (O.lssU (m:=64) (b:=128#64) rfl rfl (K3 (C.condD rfl (λc4=>?_) (λc4=>?_)))))))
 ·
  have hs4:n.toNat<128:=by simpa[BitVec.lt_def] using c4
  refine C.sr λK4=>O.mv (O.convUU (m:=64) (m':=8) U76 U5 rfl rfl rfl (O.lit1 U23 ti5 ts5 tz5 rfl rfl (λb7 w1 hb7 hz7 e1=>?_)))
  have z1:=e1.size;have hl7:=hz7.own.lt;have h1007:OwnF byteF 5 w.heap.size w1 _ [UInt8.ofBitVec (n.setWidth 8)]:=OwnF.lit1 rfl hz7 rfl (by omega);refine O.j (K4 (C.ret (Outs.one rfl rfl ?_)))
  first
  |exact ⟨e1,h1007.lst (Cn.num_last hs4).symm⟩
  |exact ⟨e1,({app:16}).lst (Cn.num_step2 hs4).symm⟩
 have hs4:¬n.toNat<128:=by simpa[BitVec.lt_def,BitVec.le_def] using c4
 have hlt:(n/128#64).toNat<n.toNat:=by rw[BitVec.toNat_udiv];show n.toNat/128<n.toNat;omega
 refine C.skip (K2 (C.sr λK5=>O.mv (O.remU (m:=64) (b:=128#64) rfl rfl rfl rfl (by decide) (O.addU (m:=64) (a:=128#64) rfl rfl rfl rfl (O.convUU (m:=64) (m':=8) U76 U5 rfl rfl rfl (O.lit1 U23 ti5 ts5 tz5 rfl rfl (λb12 w2 hb12 hz12 e2=>?_)))))));have z2:=e2.size;have hl12:=hz12.own.lt;have h1012:OwnF byteF 5 w.heap.size w2 _ [UInt8.ofBitVec ((128#64+n%128#64).setWidth 8)]:=OwnF.lit1 rfl hz12 rfl (by omega);refine O.mv (O.quoU (m:=64) (b:=128#64) rfl rfl rfl rfl (by decide) (O.call call49 (args1 rfl) (ih (n/128#64) hlt _) ?_));rintro v_15 w3 ⟨e3,h15⟩;have z3:=e3.size;have h15s:=h15.sl;refine O.appF (G:=byteF) U23 ti5 tz5 ts5 rfl rfl rfl (h1012.L e3) h15s (by rw[tb5];have:=Cn.num_u (n/128#64);simp only[List.length_cons,List.length_nil];omega) (by unfold maxLen;have:=Cn.num_u (n/128#64);simp only[List.length_cons,List.length_nil];omega) (by omega) (λv16 w4 h16 e4=>?_);have z4:=e4.size;have h16s:=h16.sl;refine O.j (K5 (C.ret (Outs.one rfl rfl ?_)))
 first
 |exact ⟨(Ext.new (Ext.T e2 e3) e4 (by intro i hi h;have:=(h1012.L e3).bk_ge i h;omega)),h1007.lst (Cn.num_last hs4).symm⟩
 |exact ⟨(Ext.new (Ext.T e2 e3) e4 (by intro i hi h;have:=(h1012.L e3).bk_ge i h;omega)),(h16).lst (Cn.num_step2 hs4).symm⟩
theorem rnum_spec (n:BitVec 64)(w:World):Ret prog 49 #[.int .u64 (n.toNat:Int)] w (λv w'=>Le w w'∧OwnF byteF 5 w.heap.size w' v (Cn.num n.toNat)):=by
 have key:∀(k:Nat) (n:BitVec 64),n.toNat=k->∀w:World,Ret prog 49 #[.int .u64 (n.toNat:Int)] w (λv w'=>Le w w'∧OwnF byteF 5 w.heap.size w' v (Cn.num n.toNat)):=by
  intro k
  induction k using Nat.strongRecOn with
  |_ k ih=>exact λn hn w=>rnum_a_spec n w λm hm w=>ih m.toNat (hn ▸ hm) m rfl w
 exact key _ n rfl w
theorem rstr_spec (s:List UInt8)(w:World)(hn:s.length<=1000000):
 Ret prog 48 #[str (s)] w (λv w'=>Le w w'∧OwnF byteF 5 w.heap.size w' v (Cn.strB s)):=by
 have hnl:=Cn.num_le s.length (by omega);obtain ⟨ie5,ti5,ts5,tb5,tz5⟩:=inf5;refine enT [str (s)] 9 func48 rfl rfl (C.sr λK1=>O.j (K1 (C.sr λK2=>O.mv (O.lenS U9 rfl (O.convIU (m':=64) U3 U76 rfl rfl rfl (O.call call49 (args1 rfl) (rnum_spec (BitVec.ofInt 64 (s.length:Int)) _) ?_))))));rintro v_6 w1 ⟨e1,h6⟩;have z1:=e1.size;rw[Cn.u_def,Cn.u_nat (by omega)] at h6;refine O.mv (O.appS U23 U9 ti5 tz5 ts5 tb5 rfl rfl h6 (by omega) (by unfold maxLen;omega) (by omega) (λv8 w2 h8 e2=>?_));have z2:=e2.size;have h8s:=h8.sl;refine O.j (K2 (C.ret (Outs.one rfl rfl ?_)));exact ⟨(Ext.new e1 e2 (by intro i hi h;have:=h6.bk_ge i h;omega)),h8.low (by omega)⟩
theorem rest_spec (b:Nat)(vr:Value)(l:List UInt8)(k:Nat)(F:Nat->Prop)(w:World)(ho:Own w b 131 [.bool true,vr,.int .i64 ((k:Int))])(hl:Sl byteE w F vr l)(hk:k<=l.length)(hF:∀j,F j->j≠b∧j<w.heap.size):
 Ret prog 106 #[.pointer (some ⟨b,0,none⟩)] w (λv w'=>Le w w'∧Sl byteE w' F v (l.drop k)):=by
 have _hF9:=hF;have _hk9:=hk;have hbl:=ho.lt;have hll:=hl.le;refine enT [.pointer (some ⟨b,0,none⟩)] 12 func106 rfl rfl (C.sr λK1=>O.j (K1 (C.sd λK2 w1 e1 z1=>D.mv 0 rfl leR (D.tk 1 rfl rfl rfl rfl leR (nil_form rfl) (λ_ hw_ _ hN=>O.nilChk rfl (O.o hN)) (D.t 2 rfl leR (λ_ _ _ hN=>O.fa U131 rfl Z23 rfl (O.o hN)) (D.t 3 rfl leR (λ_ hw_ _ hN=>O.loadO isAgg23 rfl ((ho.L e1).L hw_) rfl (O.o hN)) (D.mv 4 rfl leR (D.tk 5 rfl rfl rfl rfl leR (nil_form rfl) (λ_ hw_ _ hN=>O.nilChk rfl (O.o hN)) (D.t 6 rfl leR (λ_ _ _ hN=>O.fa U131 rfl Z3 rfl (O.o hN)) ?_)))))))));refine D.t 7 rfl leR (λ_ hw_ _ hN=>O.loadO isAgg3 rfl ((ho.L e1).L hw_) rfl (O.o hN)) ?_;have hb11:=Sl.sub (P:=prog) (k) (l.length) U23 Z5 (by rfl) (hl.L e1) hk (Nat.le_refl _);obtain ⟨v11,hs11,hr11⟩:=hb11;refine D.t 8 rfl leR (λ_ _ _ hN=>O.subR rfl hr11 (.inr ⟨_,_,rfl,rfl⟩) (.inl ⟨rfl,rfl⟩) (O.o hN)) (D.as 9 rfl leR (K2 (C.ret (Outs.one rfl rfl ?_))));have q:=hs11;rw[List.take_length] at q;exact ⟨e1,q⟩
theorem zero_spec (b:Nat)(vr:Value)(l:List UInt8)(k:Nat)(F:Nat->Prop)(w:World)(ho:Own w b 131 [.bool true,vr,.int .i64 ((k:Int))])(hl:Sl byteE w F vr l)(hk:k<=l.length)(hF:∀j,F j->j≠b∧j<w.heap.size):
 Ret prog 83 #[.pointer (some ⟨b,0,none⟩)] w (λv w'=>v=.bool false∧w'=w):=by
 have _hF9:=hF;have _hk9:=hk;have hbl:=ho.lt;have hll:=hl.le;refine enT [.pointer (some ⟨b,0,none⟩)] 12 func83 rfl rfl (C.sr λK1=>O.j (K1 (C.sr λK2=>O.mv (O.eqlP0 underlying97 rfl (O.mv (O.yes rfl rfl (O.mv (O.yes rfl rfl (O.nilChk rfl (O.yes rfl rfl (O.fa U131 rfl Z4 rfl (O.yes rfl rfl (O.loadO isAgg4 rfl ho rfl (O.yes rfl rfl (O.not rfl (O.pickF rfl (O.j (K2 (C.ret (Outs.one rfl rfl ?_))))))))))))))))))));exact ⟨rfl,rfl⟩
theorem num1_spec (c:BitVec 8)(w:World):
 Ret prog 108 #[.int .u8 ((c).toNat:Int)] w (λv w'=>v=.bool (decide (c<128#8))∧Le w w'):=by
 refine enT [.int .u8 ((c).toNat:Int)] 5 func108 rfl rfl (C.sr λK1=>O.j (K1 (C.sr λK2=>O.mv (O.lssU (m:=8) (b:=128#8) rfl rfl (O.j (K2 (C.ret (Outs.one rfl rfl ?_))))))));exact ⟨rfl,leR⟩
theorem pred_small (M:Nat->Prop)(w:World):Pred prog M w (.func (.func 108) #[] #[]) (λc:UInt8=>.int .u8 (c.toNat:Int)) Cn.small7:=⟨108,[],rfl,call108,λc w' _=>by
 have h:=num1_spec c.toBitVec w';refine h.mono ?_;rintro v w2 ⟨rfl,e⟩;exact ⟨cB (decide_eq_decide.2 (by rw[BitVec.lt_def];exact Iff.rfl)),e⟩⟩
theorem indexB_spec (v0 vf:Value)(l:List UInt8)(F M:Nat->Prop)(p:UInt8->Bool)(w:World)(hl:Sl byteE w F v0 l)(hp:Pred prog M w vf (λc:UInt8=>.int .u8 (c.toNat:Int)) p):
 Ret prog 107 #[v0,vf] w (λv w'=>v=.int .i64 (Cn.idx p l)∧Le w w'):=by
 have hle:=hl.le;refine enT [v0,vf] 19 func107 rfl rfl (C.sr λK1=>O.j (K1 (C.sq λK2=>C.sr λK3=>O.mv (O.len U23 rfl hl (O.mv (K3 (C.bl λK4=>C.loop0 (σ:=Nat) (λf0 w0 k f wz=>f 8=.int .i64 (k)∧f 0=f0 0∧f 1=f0 1∧f 7=f0 7∧Le w wz∧k<=l.length∧∀i,∀h:i<l.length,i<k->p l[i]=false) (λk=>l.length-k) 0 ?_ ?_)))))))
 ·
  refine ⟨rfl,rfl,rfl,rfl,leR,?_⟩;exact ⟨Nat.zero_le _,λi h k=>absurd k (Nat.not_lt_zero _)⟩
 rintro k f_1 w1 ⟨s8_1,s0_1,s1_1,s7_1,e_1,⟨hk,hI⟩⟩;have z_1:=e_1.size;refine C.sr λK5=>O.lssI s8_1 s7_1 (K5 (C.sq λK6=>C.condD rfl (λc9=>?_) (λc9=>?_)))
 ·
  have hk2:k<l.length:=by omega
  refine C.skip (K6 (C.sq λK7=>C.bl λK8=>C.sr λK9=>O.mv (O.j (K9 (C.sr λK10=>O.mv (O.mv (O.mv (O.idx U23 Z5 rfl s0_1 (hl.L e_1) s8_1 (by omega) (λa14 h14=>O.loadB isAgg5 rfl h14 (O.callP (l[k]'hk2) (hp.L e_1) s1_1 rfl (λw2 e2=>?_)))))))))));have z2:=e2.size;refine K10 (C.cond rfl (λc16=>?_) (λc16=>?_))
  ·
   refine C.sr λK11=>O.mv (O.j (K11 (C.ret (Outs.one rfl s8_1 ?_))))
   first
   |exact ⟨cI (Cn.idx_yes hk2 c16 hI).symm,(Ext.T e_1 e2)⟩
   |exact ⟨cI (Cn.idx_no λi hi=>hI i hi (by omega)).symm,(Ext.T e_1 e2)⟩
  refine C.skip (K8 (K7 (C.region (O.ad s8_1 rfl (O.mv (O.o (⟨k+1,⟨rfl,s0_1,s1_1,s7_1,(Ext.T e_1 e2),?_⟩,by first|omega|(simp only[];omega)⟩)))))));refine ⟨by omega,λi hi hik=>?_⟩;rcases Nat.lt_or_eq_of_le (Nat.le_of_lt_succ hik) with h|rfl
  ·exact hI i hi h
  ·exact c16
 refine C.exit (K4 (K2 (C.sr λK12=>O.j (K12 (C.ret (Outs.one rfl rfl ?_))))))
 first
 |exact ⟨cI (Cn.idx_yes hk2 c16 hI).symm,e_1⟩
 |exact ⟨cI (Cn.idx_no λi hi=>hI i hi (by omega)).symm,e_1⟩
theorem rdnum_spec (b:Nat)(vr:Value)(l:List UInt8)(k:Nat)(F:Nat->Prop)(w:World)(ho:Own w b 131 [.bool true,vr,.int .i64 ((k:Int))])(hl:Sl byteE w F vr l)(hk:k<=l.length)(hF:∀j,F j->j≠b∧j<w.heap.size)(hL:l.length<=1000000):
 Ret prog 88 #[.pointer (some ⟨b,0,none⟩)] w (λv w'=>∃(n:BitVec 64) (e:Int) (k':Nat),v=.tuple #[.int .u64 (n.toNat:Int),.int .i64 e]∧Own w' b 131 [.bool true,vr,.int .i64 ((k':Int))]∧((e=0∧Cn.Seg (Cn.num n.toNat) l k k')∨(0<e∧n=0#64∧k'=k∧Cn.No (λ_:BitVec 64=>True) (λq=>Cn.num q.toNat) l k))∧Ext (λj=>j=b) w w'):=by
 have _hF9:=hF;have _hk9:=hk;have hbl:=ho.lt;have hll:=hl.le;obtain ⟨x,hx⟩:∃x,x=l.drop k:=⟨_,rfl⟩
 have hxl:x.length=l.length-k:=by rw[hx,List.length_drop]
 refine enT [.pointer (some ⟨b,0,none⟩)] 73 func88 rfl rfl (C.sr λK1=>O.j (O.j (K1 (C.sr λK2=>O.mv (O.call call106 (args1 rfl) (rest_spec b vr l k F _ ho hl hk (λj hj=>by have q1:=hF j hj;omega)) ?_)))));rintro v_9 w1 ⟨e1,h9⟩;have z1:=e1.size;rw[<-hx] at h9;refine O.j (K2 (C.sr λK3=>O.mv (O.mv (O.len U23 rfl h9 (O.minI rfl rfl (O.cast (v':=.int .i64 ((min x.length 10:Nat):Int)) (cI (by omega)) ?_))))));have hb14:=Sl.sub (P:=prog) (0) (min x.length 10) U23 Z5 (by rfl) h9 (Nat.zero_le _) (by omega);obtain ⟨v14,hs14,hr14⟩:=hb14;refine O.subR rfl hr14 (.inl ⟨rfl,rfl⟩) (.inr ⟨_,_,rfl,rfl⟩) ?_;rw[List.drop_zero,Cn.take_min] at hs14;refine O.call call107 (args2 rfl rfl) (indexB_spec _ _ (x.take 10) _ (λ_=>False) _ _ hs14 (pred_small _ _)) ?_;rintro v_15 w2 ⟨rfl,e2⟩;have z2:=e2.size;obtain ⟨e,he⟩:∃e,e=Cn.endN x:=⟨_,rfl⟩
 have hge: -1<=e:=by rw[he];exact Cn.endN_ge x
 have hat:0<=e->e.toNat<x.length∧e<=9:=λh=>by
  have:=Cn.endN_at (x:=x) (e:=e.toNat) (by omega);exact ⟨this.1,by omega⟩
 have hed:e=Cn.endN (l.drop k):=by rw[<-hx];exact he
 obtain ⟨y,hy⟩:∃y,y=x.getD e.toNat 0:=⟨_,rfl⟩
 have q1:(y.toBitVec=0#8)↔y.toNat=0:=⟨λh=>by rw[<-UInt8.toNat_toBitVec,h];rfl,λh=>BitVec.eq_of_toNat_eq h⟩
 have q2:(1#8<y.toBitVec)↔1<y.toNat:=by rw[BitVec.lt_def];exact Iff.rfl
 refine O.cast (v':=.int .i64 e) (by rw[he];rfl) (O.j (K3 (C.sq λK4=>C.bl λK5=>C.sr λK6=>O.mv (O.lssI rfl rfl (O.mv (O.cut 4 (λf f'=>f' 23=.bool (decide (e<0∧((x.length:Nat):Int)<10))∧f' 0=f 0∧f' 2=f 2∧f' 3=f 3∧f' 4=f 4∧f' 5=f 5) ?_ ?_))))))
 ·
  refine O.splitD (x:=.tmp 19) rfl (λc19=>?_) (λc19=>?_)
  ·
   refine O.yes rfl (isT rfl c19) (O.mv (O.yes rfl (isT rfl c19) (O.len U23 rfl (h9.L e2) (O.yes rfl (isT rfl c19) (O.lssI rfl rfl (O.pickT (isT rfl c19) (O.o (⟨⟨?_,rfl,rfl,rfl,rfl,rfl⟩,rfl⟩))))))));exact dJ rfl
  refine O.no rfl (noB (isF rfl c19) rfl) (O.no rfl (noB (isF rfl c19) rfl) (O.no rfl (noB (isF rfl c19) rfl) (O.pickF (isF rfl c19) (O.o (⟨⟨?_,rfl,rfl,rfl,rfl,rfl⟩,rfl⟩)))));exact dJ rfl
 rintro f_1 ⟨s23_1,s0_1,s2_1,s3_1,s4_1,s5_1⟩;refine O.j (K6 (C.condD s23_1 (λc16=>?_) (λc16=>?_)))
 ·
  refine C.sr λK7=>O.j (O.j (K7 (C.ret (Outs.two rfl rfl rfl ?_))))
  first
  |exact ⟨0#64,4,k,rfl,((ho.L e1).L e2),.inr ⟨by decide,rfl,rfl,Cn.bad_no hed (.inl (by omega))⟩,(Ext.nw (Ext.nw (Ext.L _ _) e1) e2)⟩
  |exact ⟨0#64,12,k,rfl,((ho.L e1).L e2),.inr ⟨by decide,rfl,rfl,Cn.bad_no hed (by rw[<-hx];exact c24)⟩,(Ext.nw (Ext.nw (Ext.L _ _) e1) e2)⟩
  |(obtain rfl:j=0:=by omega
    exact ⟨_,0,k+(e.toNat+1),rfl,((ho.L e1).L e2),.inl ⟨rfl,by rw[hx];exact hgood⟩,(Ext.nw (Ext.nw (Ext.L _ _) e1) e2)⟩)
 refine C.sr λK8=>O.mv (O.lssI s5_1 rfl (O.mv (O.cut 21 (λf f'=>f' 48=.bool (decide (Cn.badN x e))∧f' 0=f 0∧f' 2=f 2∧f' 3=f 3∧f' 4=f 4∧f' 5=f 5) ?_ ?_)))
 ·
  refine O.splitD (x:=.tmp 27) rfl (λc27=>?_) (λc27=>?_)
  ·
   refine O.no rfl (noB (isT rfl c27) rfl) (O.no rfl (noB (isT rfl c27) rfl) (O.no rfl (noB (isT rfl c27) rfl) (O.no rfl (noU rfl) (O.no rfl (noU rfl) (O.no rfl (noU rfl) (O.no rfl (noU rfl) (O.no rfl (noU rfl) (O.no rfl (noB (isT rfl c27) rfl) (O.pickT (isT rfl c27) (O.mv (O.no rfl (noB rfl rfl) (O.no rfl (noB rfl rfl) (O.no rfl (noB rfl rfl) (O.no rfl (noU rfl) (O.no rfl (noU rfl) (O.no rfl (noU rfl) (O.no rfl (noU rfl) (O.no rfl (noU rfl) (O.no rfl (noB rfl rfl) (O.pickT rfl (O.o (⟨⟨?_,rfl,rfl,rfl,rfl,rfl⟩,rfl⟩))))))))))))))))))))));refine Eq.trans rfl (congrArg Value.bool ?_)
   try rw[q1] at c38
   first
   |(refine (decide_eq_true ?_).symm;unfold Cn.badN;rw[<-hy];omega)
   |(refine (decide_eq_false ?_).symm;unfold Cn.badN;rw[<-hy];omega)
   |(refine decide_eq_decide.2 ?_;unfold Cn.badN;rw[<-hy,q2];omega)
  have hat2:=hat (by omega);refine O.yes rfl (isF rfl c27) (O.mv (O.yes rfl (isF rfl c27) (O.gtrI s5_1 rfl (O.yes rfl (isF rfl c27) (O.mv (O.splitD (x:=.tmp 30) rfl (λc30=>?_) (λc30=>?_)))))))
  ·
   refine O.yes rfl (isT rfl c30) (O.mv (O.yes rfl (isT rfl c30) (O.mv (O.yes rfl (isT rfl c30) (O.idx U23 Z5 rfl s4_1 (h9.L e2) s5_1 (by omega) (λa33 h33=>O.yes rfl (isT rfl c30) (O.loadB isAgg5 rfl h33 (O.cast (v':=.int .u8 (y.toBitVec.toNat:Int)) (by rw[hy,Cn.getD_at (by omega)]) (O.yes rfl (isT rfl c30) (O.eqlU (m:=8) (b:=0#8) rfl rfl (O.yes rfl (isF rfl c27) (O.pickT (isT rfl c30) (O.pickF (isF rfl c27) (O.mv (O.splitD (x:=.tmp 38) rfl (λc38=>?_) (λc38=>?_))))))))))))))))
   ·
    refine O.no rfl (noB (isT rfl c38) rfl) (O.no rfl (noB (isT rfl c38) rfl) (O.no rfl (noB (isT rfl c38) rfl) (O.no rfl (noU rfl) (O.no rfl (noU rfl) (O.no rfl (noU rfl) (O.no rfl (noU rfl) (O.no rfl (noU rfl) (O.no rfl (noB (isT rfl c38) rfl) (O.pickT (isT rfl c38) (O.o (⟨⟨?_,rfl,rfl,rfl,rfl,rfl⟩,rfl⟩)))))))))));refine Eq.trans rfl (congrArg Value.bool ?_)
    try rw[q1] at c38
    first
    |(refine (decide_eq_true ?_).symm;unfold Cn.badN;rw[<-hy];omega)
    |(refine (decide_eq_false ?_).symm;unfold Cn.badN;rw[<-hy];omega)
    |(refine decide_eq_decide.2 ?_;unfold Cn.badN;rw[<-hy,q2];omega)
   refine O.yes rfl (isF rfl c38) (O.mv (O.yes rfl (isF rfl c38) (O.eqlI s5_1 rfl (O.yes rfl (isF rfl c38) (O.mv (O.splitD (x:=.tmp 41) rfl (λc41=>?_) (λc41=>?_)))))))
   ·
    refine O.yes rfl (isT rfl c41) (O.mv (O.yes rfl (isT rfl c41) (O.mv (O.yes rfl (isT rfl c41) (O.idx U23 Z5 rfl s4_1 (h9.L e2) s5_1 (by omega) (λa44 h44=>O.yes rfl (isT rfl c41) (O.loadB isAgg5 rfl h44 (O.cast (v':=.int .u8 (y.toBitVec.toNat:Int)) (by rw[hy,Cn.getD_at (by omega)]) (O.yes rfl (isT rfl c41) (O.gtrU (m:=8) (b:=1#8) rfl rfl (O.yes rfl (isF rfl c38) (O.pickT (isT rfl c41) (O.pickF (isF rfl c38) (O.o (⟨⟨?_,rfl,rfl,rfl,rfl,rfl⟩,rfl⟩)))))))))))))));refine Eq.trans rfl (congrArg Value.bool ?_)
    try rw[q1] at c38
    first
    |(refine (decide_eq_true ?_).symm;unfold Cn.badN;rw[<-hy];omega)
    |(refine (decide_eq_false ?_).symm;unfold Cn.badN;rw[<-hy];omega)
    |(refine decide_eq_decide.2 ?_;unfold Cn.badN;rw[<-hy,q2];omega)
   refine O.no rfl (noB (isF rfl c41) rfl) (O.no rfl (noB (isF rfl c41) rfl) (O.no rfl (noB (isF rfl c41) rfl) (O.no rfl (noB (isF rfl c41) rfl) (O.no rfl (noB (isF rfl c41) rfl) (O.yes rfl (isF rfl c38) (O.pickF (isF rfl c41) (O.pickF (isF rfl c38) (O.o (⟨⟨?_,rfl,rfl,rfl,rfl,rfl⟩,rfl⟩)))))))));refine Eq.trans rfl (congrArg Value.bool ?_)
   try rw[q1] at c38
   first
   |(refine (decide_eq_true ?_).symm;unfold Cn.badN;rw[<-hy];omega)
   |(refine (decide_eq_false ?_).symm;unfold Cn.badN;rw[<-hy];omega)
   |(refine decide_eq_decide.2 ?_;unfold Cn.badN;rw[<-hy,q2];omega)
  refine O.no rfl (noB (isF rfl c30) rfl) (O.no rfl (noB (isF rfl c30) rfl) (O.no rfl (noB (isF rfl c30) rfl) (O.no rfl (noB (isF rfl c30) rfl) (O.no rfl (noB (isF rfl c30) rfl) (O.yes rfl (isF rfl c27) (O.pickF (isF rfl c30) (O.pickF (isF rfl c27) (O.mv (O.yes rfl rfl (O.mv (O.yes rfl rfl (O.eqlI s5_1 rfl (O.yes rfl rfl (O.mv (O.splitD (x:=.tmp 41) rfl (λc41=>?_) (λc41=>?_))))))))))))))))
  ·
   refine O.yes rfl (isT rfl c41) (O.mv (O.yes rfl (isT rfl c41) (O.mv (O.yes rfl (isT rfl c41) (O.idx U23 Z5 rfl s4_1 (h9.L e2) s5_1 (by omega) (λa44 h44=>O.yes rfl (isT rfl c41) (O.loadB isAgg5 rfl h44 (O.cast (v':=.int .u8 (y.toBitVec.toNat:Int)) (by rw[hy,Cn.getD_at (by omega)]) (O.yes rfl (isT rfl c41) (O.gtrU (m:=8) (b:=1#8) rfl rfl (O.yes rfl rfl (O.pickT (isT rfl c41) (O.pickF rfl (O.o (⟨⟨?_,rfl,rfl,rfl,rfl,rfl⟩,rfl⟩)))))))))))))));refine Eq.trans rfl (congrArg Value.bool ?_)
   try rw[q1] at c38
   first
   |(refine (decide_eq_true ?_).symm;unfold Cn.badN;rw[<-hy];omega)
   |(refine (decide_eq_false ?_).symm;unfold Cn.badN;rw[<-hy];omega)
   |(refine decide_eq_decide.2 ?_;unfold Cn.badN;rw[<-hy,q2];omega)
  refine O.no rfl (noB (isF rfl c41) rfl) (O.no rfl (noB (isF rfl c41) rfl) (O.no rfl (noB (isF rfl c41) rfl) (O.no rfl (noB (isF rfl c41) rfl) (O.no rfl (noB (isF rfl c41) rfl) (O.yes rfl rfl (O.pickF (isF rfl c41) (O.pickF rfl (O.o (⟨⟨?_,rfl,rfl,rfl,rfl,rfl⟩,rfl⟩)))))))));refine Eq.trans rfl (congrArg Value.bool ?_)
  try rw[q1] at c38
  first
  |(refine (decide_eq_true ?_).symm;unfold Cn.badN;rw[<-hy];omega)
  |(refine (decide_eq_false ?_).symm;unfold Cn.badN;rw[<-hy];omega)
  |(refine decide_eq_decide.2 ?_;unfold Cn.badN;rw[<-hy,q2];omega)
 rintro f_2 ⟨s48_2,s0_2,s2_2,s3_2,s4_2,s5_2⟩;refine O.j (K8 (C.condD s48_2 (λc24=>?_) (λc24=>?_)))
 ·
  refine C.sr λK9=>O.j (O.j (K9 (C.ret (Outs.two rfl rfl rfl ?_))))
  first
  |exact ⟨0#64,4,k,rfl,((ho.L e1).L e2),.inr ⟨by decide,rfl,rfl,Cn.bad_no hed (.inl (by omega))⟩,(Ext.nw (Ext.nw (Ext.L _ _) e1) e2)⟩
  |exact ⟨0#64,12,k,rfl,((ho.L e1).L e2),.inr ⟨by decide,rfl,rfl,Cn.bad_no hed (by rw[<-hx];exact c24)⟩,(Ext.nw (Ext.nw (Ext.L _ _) e1) e2)⟩
  |(obtain rfl:j=0:=by omega
    exact ⟨_,0,k+(e.toNat+1),rfl,((ho.L e1).L e2),.inl ⟨rfl,by rw[hx];exact hgood⟩,(Ext.nw (Ext.nw (Ext.L _ _) e1) e2)⟩)
 have hgood:=Cn.good_num hk hed (by rw[<-hx];exact c24);have he0:0<=e:=by unfold Cn.badN at c24;omega
 have hat2:=hat he0;refine C.skip (K5 (K4 (C.sr λK10=>O.j (K10 (C.sq λK11=>C.sr λK12=>O.mv (O.j (K12 (C.bl λK13=>C.loop0 (σ:=Nat) (λf0 w0 j f w=>f 6=.int .u64 ((BitVec.ofNat 64 (Cn.valN ((x.take (e.toNat+1)).drop j))).toNat:Int)∧f 7=.int .i64 ((j:Int)-1)∧f 0=f0 0∧f 2=f0 2∧f 3=f0 3∧f 4=f0 4∧f 5=f0 5∧Le w0 w∧j<=e.toNat+1) (λj=>j) (e.toNat+1) ?_ ?_))))))))
 ·
  refine ⟨(Eq.trans rfl (by rw[List.drop_of_length_le (by rw[List.length_take];omega)];rfl)),(Eq.trans (Eq.trans s5_2 s5_1) (i64_eq (by omega))),rfl,rfl,rfl,rfl,rfl,Le.refl _,?_⟩;exact Nat.le_refl _
 rintro j f_3 w3 ⟨s6_3,s7_3,s0_3,s2_3,s3_3,s4_3,s5_3,e_3,hj⟩;have z_3:=e_3.size;refine C.sq λK14=>C.sr λK15=>O.mv (O.geqI s7_3 rfl (K15 (C.condD rfl (λc51=>?_) (λc51=>?_))))
 ·
  refine C.skip (K14 (C.sq λK16=>C.bl λK17=>C.region (O.mv (O.shlU (m:=64) (c:=7) rfl rfl s6_3 rfl (O.mv (O.mv (O.idx U23 Z5 rfl (Eq.trans s4_3 (Eq.trans s4_2 s4_1)) ((h9.L e2).L e_3) s7_3 (by omega) (λa58 h58=>O.loadB isAgg5 rfl h58 (O.andNotU (m:=8) (b:=128#8) rfl rfl rfl rfl (O.convUU (m:=8) (m':=64) U5 U76 rfl rfl rfl (O.orU (m:=64) rfl rfl rfl rfl (O.j (O.o (K17 (K16 (C.region (O.mv (O.sb s7_3 rfl (O.j (O.o ?_))))))))))))))))))));refine ⟨(j-1),⟨(Eq.trans rfl (congrArg (λq:BitVec 64=>Value.int .u64 (q.toNat:Int)) (by rw[Cn.valN_step (i:=j-1) (by omega) (by omega),show j-1+1=j by omega];simp only[show ((j:Int)-1).toNat=j-1 by omega];exact Cn.group _ _))),(Eq.trans rfl (i64_eq (by omega))),s0_3,s2_3,s3_3,s4_3,s5_3,e_3,?_⟩,by first|omega|(simp only[];omega)⟩
  omega
 refine C.exit (K13 (K11 (C.sr λK18=>O.mv (O.nilChk (Eq.trans s0_3 (Eq.trans s0_2 s0_1)) (O.fa U131 rfl Z3 rfl ?_)))));have t0:=((ho.L e1).L e2).L e_3;refine O.loadO isAgg3 rfl t0 rfl (O.mv (O.ad (Eq.trans s5_3 (Eq.trans s5_2 s5_1)) rfl (O.ad rfl rfl (O.cast (v':=.int .i64 ((k+(e.toNat+1):Nat):Int)) (cI (by omega)) (O.nilChk (Eq.trans s0_3 (Eq.trans s0_2 s0_1)) (O.fa U131 rfl Z3 rfl (O.store Z3 rfl rfl rfl t0 (by simp) (λw4 hs4 e4 z4=>?_))))))))
 try simp only[Nat.zero_add] at hs4
 refine K18 (C.sr λK19=>O.mv (O.j (O.j (K19 (C.ret (Outs.two rfl s6_3 rfl ?_))))))
 first
 |exact ⟨0#64,4,k,rfl,hs4,.inr ⟨by decide,rfl,rfl,Cn.bad_no hed (.inl (by omega))⟩,(Ext.nw (Ext.nw (Ext.nw (Ext.nw (Ext.L _ _) e1) e2) e_3) e4)⟩
 |exact ⟨0#64,12,k,rfl,hs4,.inr ⟨by decide,rfl,rfl,Cn.bad_no hed (by rw[<-hx];exact c24)⟩,(Ext.nw (Ext.nw (Ext.nw (Ext.nw (Ext.L _ _) e1) e2) e_3) e4)⟩
 |(obtain rfl:j=0:=by omega
   exact ⟨_,0,k+(e.toNat+1),rfl,hs4,.inl ⟨rfl,by rw[hx];exact hgood⟩,(Ext.nw (Ext.nw (Ext.nw (Ext.nw (Ext.L _ _) e1) e2) e_3) e4)⟩)
theorem wholeN_spec (b:Nat)(vr:Value)(l:List UInt8)(k:Nat)(F:Nat->Prop)(w:World)(ho:Own w b 131 [.bool true,vr,.int .i64 ((k:Int))])(hl:Sl byteE w F vr l)(hk:k<=l.length)(hF:∀j,F j->j≠b∧j<w.heap.size)(hL:l.length<=1000000):
 Ret prog 87 #[.pointer (some ⟨b,0,none⟩),.func (.func 88) #[] #[]] w (λv w'=>∃(n:BitVec 64) (e:Int) (k':Nat),v=.tuple #[.int .u64 (n.toNat:Int),.int .i64 e]∧Own w' b 131 [.bool true,vr,.int .i64 ((k':Int))]∧((e=0∧Cn.Seg (Cn.num n.toNat) l k k')∨(0<e∧n=0#64∧k'=k∧Cn.No (λ_:BitVec 64=>True) (λq=>Cn.num q.toNat) l k))∧Ext (λj=>j=b) w w'):=by
 have _hF9:=hF;have _hk9:=hk;have hbl:=ho.lt;have hll:=hl.le;refine enT [.pointer (some ⟨b,0,none⟩),.func (.func 88) #[] #[]] 32 func87 rfl rfl (C.sr λK1=>O.j (O.j (K1 (C.sr λK2=>O.j (K2 (C.sq λK3=>C.sr λK4=>O.mv (O.call call83 (args1 rfl) (zero_spec b vr l _ F _ ho hl (by omega) (λj hj=>by have q1:=hF j hj;omega)) ?_)))))));rintro v_11 w1 ⟨rfl,hw_⟩;replace hw_:=hw_.symm;subst hw_;refine K4 (C.condF rfl (C.skip (K3 (C.sr λK5=>O.mv (O.nilChk rfl (O.fa U131 rfl Z3 rfl (O.loadO isAgg3 rfl ho rfl (O.j (K5 (C.sr λK6=>O.mv (O.mv (O.callV (vs:=[.pointer (some ⟨b,0,none⟩)]) call88 rfl (args1 rfl) (rdnum_spec b vr l k F _ ho hl hk (λj hj=>by have q1:=hF j hj;omega) hL) ?_))))))))))));rintro v_20 w1 ⟨nv20,env20,knv20,rfl,hov20,hcv20,e1⟩;have z1:=e1.size;refine O.mv (O.extract rfl rfl (O.extract rfl rfl (O.j (O.j (K6 (C.sq λK7=>C.sr λK8=>O.mv (O.neqI rfl rfl (K8 (C.condD rfl (λc24=>?_) (λc24=>?_))))))))))
 ·
  refine C.sr λK9=>O.mv (O.mv (O.cast (v':=.int .i64 (k:Int)) rfl (O.nilChk rfl (O.fa U131 rfl Z3 rfl (O.store Z3 rfl rfl rfl hov20 (by simp) (λw2 hs2 e2 z2=>?_))))))
  try simp only[Nat.zero_add] at hs2
  refine K9 (C.sr λK10=>O.mv (O.mv (O.j (O.j (K10 (C.ret (Outs.two rfl rfl rfl ?_)))))));rcases hcv20 with ⟨q1,q2⟩|⟨q1,q2⟩
  ·first
   |exact absurd q1 c24
   |exact ⟨nv20,0,knv20,rfl,hs2,.inl ⟨rfl,q2⟩,(Ext.nw (Ext.nw (Ext.L _ _) e1) e2)⟩
  ·first
   |exact ⟨0#64,env20,k,rfl,hs2,.inr ⟨q1,rfl,rfl,q2.2.2⟩,(Ext.nw (Ext.nw (Ext.L _ _) e1) e2)⟩
   |omega
 refine C.skip (K7 (C.sr λK11=>O.mv (O.j (O.j (K11 (C.ret (Outs.two rfl rfl rfl ?_)))))));rcases hcv20 with ⟨q1,q2⟩|⟨q1,q2⟩
 ·first
  |exact absurd q1 c24
  |exact ⟨nv20,0,knv20,rfl,hov20,.inl ⟨rfl,q2⟩,(Ext.nw (Ext.L _ _) e1)⟩
 ·first
  |exact ⟨0#64,env20,k,rfl,hov20,.inr ⟨q1,rfl,rfl,q2.2.2⟩,(Ext.nw (Ext.L _ _) e1)⟩
  |omega
theorem rdNum_spec (b:Nat)(vr:Value)(l:List UInt8)(k:Nat)(F:Nat->Prop)(most:BitVec 64)(w:World)(ho:Own w b 131 [.bool true,vr,.int .i64 ((k:Int))])(hl:Sl byteE w F vr l)(hk:k<=l.length)(hF:∀j,F j->j≠b∧j<w.heap.size)(hL:l.length<=1000000):
 Ret prog 57 #[.pointer (some ⟨b,0,none⟩),.int .u64 ((most).toNat:Int)] w (λv w'=>∃(n:BitVec 64) (e:Int) (k':Nat),v=.tuple #[.int .u64 (n.toNat:Int),.int .i64 e]∧Own w' b 131 [.bool true,vr,.int .i64 ((k':Int))]∧((e=0∧n.toNat<=most.toNat∧Cn.Seg (Cn.num n.toNat) l k k')∨(0<e∧n=0#64∧k'=k∧Cn.No (λq:BitVec 64=>q.toNat<=most.toNat) (λq=>Cn.num q.toNat) l k))∧Ext (λj=>j=b) w w'):=by
 have _hF9:=hF;have _hk9:=hk;have hbl:=ho.lt;have hll:=hl.le;refine enT [.pointer (some ⟨b,0,none⟩),.int .u64 ((most).toNat:Int)] 33 func57 rfl rfl (C.sr λK1=>O.j (O.j (K1 (C.sq λK2=>C.sr λK3=>O.mv (O.call call83 (args1 rfl) (zero_spec b vr l _ F _ ho hl (by omega) (λj hj=>by have q1:=hF j hj;omega)) ?_)))));rintro v_10 w1 ⟨rfl,hw_⟩;replace hw_:=hw_.symm;subst hw_;refine K3 (C.condF rfl (C.skip (K2 (C.sr λK4=>O.mv (O.nilChk rfl (O.fa U131 rfl Z3 rfl (O.loadO isAgg3 rfl ho rfl (O.j (K4 (C.sr λK5=>O.mv (O.call call87 (args2 rfl rfl) (wholeN_spec b vr l k F _ ho hl hk (λj hj=>by have q1:=hF j hj;omega) hL) ?_)))))))))));rintro v_17 w1 ⟨nv17,env17,knv17,rfl,hov17,hcv17,e1⟩;have z1:=e1.size;refine O.mv (O.extract rfl rfl (O.extract rfl rfl (O.j (O.j (K5 (C.sq λK6=>C.sr λK7=>O.mv (O.eqlI rfl rfl (O.mv (O.splitD (x:=.tmp 22) rfl (λc22=>?_) (λc22=>?_))))))))))
 ·
  refine O.yes rfl (isT rfl c22) (O.mv (O.yes rfl (isT rfl c22) (O.mv (O.yes rfl (isT rfl c22) (O.gtrU (m:=64) rfl rfl (O.pickT (isT rfl c22) (K7 (C.condD rfl (λc26=>?_) (λc26=>?_)))))))))
  ·
   refine C.sr λK8=>O.mv (O.mv (O.cast (v':=.int .i64 (k:Int)) rfl (O.nilChk rfl (O.fa U131 rfl Z3 rfl (O.store Z3 rfl rfl rfl hov17 (by simp) (λw2 hs2 e2 z2=>?_))))))
   try simp only[Nat.zero_add] at hs2
   refine K8 (C.sr λK9=>O.j (O.j (K9 (C.ret (Outs.two rfl rfl rfl ?_)))));rcases hcv17 with ⟨q1,q2⟩|⟨q1,q2,q3,q4⟩
   ·first
    |exact ⟨0#64,3,k,rfl,hs2,.inr ⟨by decide,rfl,rfl,Cn.no_most q2 (BitVec.lt_def.1 c26)⟩,(Ext.nw (Ext.nw (Ext.L _ _) e1) e2)⟩
    |exact ⟨nv17,env17,knv17,rfl,hs2,.inl ⟨q1,Nat.le_of_not_lt (λh=>c26 (BitVec.lt_def.2 h)),q2⟩,(Ext.nw (Ext.nw (Ext.L _ _) e1) e2)⟩
    |exact absurd q1 c22
   ·first
    |(exfalso;omega)
    |exact ⟨nv17,env17,knv17,rfl,hs2,.inr ⟨q1,q2,q3,q4.mono λ_ _=>trivial⟩,(Ext.nw (Ext.nw (Ext.L _ _) e1) e2)⟩
  refine C.skip (K6 (C.sr λK10=>O.mv (O.mv (O.j (O.j (K10 (C.ret (Outs.two rfl rfl rfl ?_))))))));rcases hcv17 with ⟨q1,q2⟩|⟨q1,q2,q3,q4⟩
  ·first
   |exact ⟨0#64,3,k,rfl,hov17,.inr ⟨by decide,rfl,rfl,Cn.no_most q2 (BitVec.lt_def.1 c26)⟩,(Ext.nw (Ext.L _ _) e1)⟩
   |exact ⟨nv17,env17,knv17,rfl,hov17,.inl ⟨q1,Nat.le_of_not_lt (λh=>c26 (BitVec.lt_def.2 h)),q2⟩,(Ext.nw (Ext.L _ _) e1)⟩
   |exact absurd q1 c22
  ·first
   |(exfalso;omega)
   |exact ⟨nv17,env17,knv17,rfl,hov17,.inr ⟨q1,q2,q3,q4.mono λ_ _=>trivial⟩,(Ext.nw (Ext.L _ _) e1)⟩
 refine O.no rfl (noB (isF rfl c22) rfl) (O.no rfl (noB (isF rfl c22) rfl) (O.no rfl (noB (isF rfl c22) rfl) (O.pickF (isF rfl c22) (K7 (C.condF rfl (C.skip (K6 (C.sr λK11=>O.mv (O.mv (O.j (O.j (K11 (C.ret (Outs.two rfl rfl rfl ?_))))))))))))));rcases hcv17 with ⟨q1,q2⟩|⟨q1,q2,q3,q4⟩
 ·first
  |exact ⟨0#64,3,k,rfl,hov17,.inr ⟨by decide,rfl,rfl,Cn.no_most q2 (BitVec.lt_def.1 c26)⟩,(Ext.nw (Ext.L _ _) e1)⟩
  |exact ⟨nv17,env17,knv17,rfl,hov17,.inl ⟨q1,Nat.le_of_not_lt (λh=>c26 (BitVec.lt_def.2 h)),q2⟩,(Ext.nw (Ext.L _ _) e1)⟩
  |exact absurd q1 c22
 ·first
  |(exfalso;omega)
  |exact ⟨nv17,env17,knv17,rfl,hov17,.inr ⟨q1,q2,q3,q4.mono λ_ _=>trivial⟩,(Ext.nw (Ext.L _ _) e1)⟩
theorem rtake_spec (b:Nat)(vr:Value)(l:List UInt8)(k:Nat)(F:Nat->Prop)(n:BitVec 64)(w:World)(ho:Own w b 131 [.bool true,vr,.int .i64 ((k:Int))])(hl:Sl byteE w F vr l)(hk:k<=l.length)(hF:∀j,F j->j≠b∧j<w.heap.size)(hL:l.length<=1000000):
 Ret prog 84 #[.pointer (some ⟨b,0,none⟩),.int .u64 ((n).toNat:Int)] w (λv w'=>∃(vb:Value) (s:List UInt8) (e:Int) (k':Nat),v=.tuple #[vb,.int .i64 e]∧Own w' b 131 [.bool true,vr,.int .i64 ((k':Int))]∧OwnF byteF 5 w.heap.size w' vb (s)∧((e=0∧n.toNat<=l.length-k∧k'=k+n.toNat∧s=(l.drop k).take n.toNat)∨(e=4∧l.length-k<n.toNat∧k'=k))∧Ext (λj=>j=b) w w'):=by
 have _hF9:=hF;have _hk9:=hk;have hbl:=ho.lt;have hll:=hl.le;have hnl:=n.isLt;obtain ⟨ie5,ti5,ts5,tb5,tz5⟩:=inf5;refine enT [.pointer (some ⟨b,0,none⟩),.int .u64 ((n).toNat:Int)] 28 func84 rfl rfl (C.sr λK1=>O.j (O.j (K1 (C.sq λK2=>C.sr λK3=>O.mv (O.call call106 (args1 rfl) (rest_spec b vr l k F _ ho hl hk (λj hj=>by have q1:=hF j hj;omega)) ?_)))));rintro v_8 w1 ⟨e1,h8⟩;have z1:=e1.size;refine O.len U23 rfl h8 (O.convIU (m':=64) U3 U76 rfl rfl rfl ?_);have h10:(BitVec.ofInt 64 ((l.drop k).length:Int)).toNat=l.length-k:=by rw[List.length_drop,BitVec.toNat_ofInt];omega
 refine O.mv (O.lssU (m:=64) rfl rfl (K3 (C.condD rfl (λc12=>?_) (λc12=>?_))))
 ·
  refine C.sr λK4=>O.j (O.j (K4 (C.ret (Outs.two rfl rfl rfl ?_))))
  first
  |exact ⟨_,[],4,k,rfl,(ho.L e1),OwnF.nil _ _ _ _,.inr ⟨rfl,by rw[BitVec.lt_def,h10] at c12;exact c12,rfl⟩,(Ext.nw (Ext.L _ _) e1)⟩
  |exact ⟨_,_,0,k+n.toNat,rfl,(ho.L e1),({app:17}).low (by omega),.inl ⟨rfl,hnk,rfl,rfl⟩,(Ext.nw (Ext.L _ _) e1)⟩
 have hnk:n.toNat<=l.length-k:=by rw[BitVec.lt_def,h10] at c12;omega
 refine C.skip (K2 (C.sr λK5=>O.mv (O.call call106 (args1 rfl) (rest_spec b vr l k F _ (ho.L e1) (hl.L e1) hk (λj hj=>by have q1:=hF j hj;omega)) ?_)));rintro v_14 w2 ⟨e2,h14⟩;have z2:=e2.size;refine O.mv ?_;have hb16:=Sl.sub (P:=prog) (0) (n.toNat) U23 Z5 (by rfl) h14 (Nat.zero_le _) (by rw[List.length_drop];omega);obtain ⟨v16,hs16,hr16⟩:=hb16;refine O.subR rfl hr16 (.inl ⟨rfl,rfl⟩) (.inr ⟨_,_,rfl,rfl⟩) (O.call call80 (args1 rfl) (cloneB_spec _ _ _ _ hs16 (by simp;omega)) ?_);rintro v_17 w3 ⟨e3,h17⟩;have z3:=e3.size;rw[List.drop_zero] at h17;have h17s:=h17.sl;refine O.j (K5 (C.sr λK6=>O.mv (O.nilChk rfl (O.fa U131 rfl Z3 rfl ?_))));have t0:=((ho.L e1).L e2).L e3;refine O.loadO isAgg3 rfl t0 rfl (O.mv (O.convU64I U76 U3 rfl (O.cast (v':=.int .i64 (n.toNat:Int)) (cI (by rw[BitVec.toInt_eq_toNat_cond,if_pos (by omega)])) (O.ad rfl rfl (O.cast (v':=.int .i64 ((k+n.toNat:Nat):Int)) (cI (by omega)) (O.nilChk rfl (O.fa U131 rfl Z3 rfl (O.store Z3 rfl rfl rfl t0 (by simp) (λw4 hs4 e4 z4=>?_)))))))))
 try simp only[Nat.zero_add] at hs4
 refine K6 (C.sr λK7=>O.mv (O.j (O.j (K7 (C.ret (Outs.two rfl rfl rfl ?_))))))
 first
 |exact ⟨_,[],4,k,rfl,hs4,OwnF.nil _ _ _ _,.inr ⟨rfl,by rw[BitVec.lt_def,h10] at c12;exact c12,rfl⟩,(Ext.nw (Ext.nw (Ext.nw (Ext.nw (Ext.L _ _) e1) e2) e3) e4)⟩
 |exact ⟨_,_,0,k+n.toNat,rfl,hs4,((h17.kM e4 (λk hk h=>by have:=h17.bk_ge k hk;(try dsimp only at h);omega))).low (by omega),.inl ⟨rfl,hnk,rfl,rfl⟩,(Ext.nw (Ext.nw (Ext.nw (Ext.nw (Ext.L _ _) e1) e2) e3) e4)⟩
theorem rstr1_spec (b:Nat)(vr:Value)(l:List UInt8)(k:Nat)(F:Nat->Prop)(bm:Nat)(most:Int)(w:World)(ho:Own w b 131 [.bool true,vr,.int .i64 ((k:Int))])(hl:Sl byteE w F vr l)(hk:k<=l.length)(hF:∀j,F j->j≠b∧j<w.heap.size)(hL:l.length<=1000000)(hm:Own w bm 3 [.int .i64 most])(hne:bm≠b)(hmost:InI most):
 Ret prog 86 #[.pointer (some ⟨b,0,none⟩),.pointer (some ⟨bm,0,none⟩)] w (λv w'=>∃(s:List UInt8) (e:Int) (k':Nat),v=.tuple #[str s,.int .i64 e]∧Own w' b 131 [.bool true,vr,.int .i64 ((k':Int))]∧((e=0∧(s.length:Int)<=most∧Cn.Seg (Cn.strB s) l k k')∨(0<e∧True∧Cn.No (λs:List UInt8=>(s.length:Int)<=most) Cn.strB l k))∧Ext (λj=>j=b) w w'):=by
 have _hF9:=hF;have _hk9:=hk;have hbl:=ho.lt;have hll:=hl.le;refine enT [.pointer (some ⟨b,0,none⟩),.pointer (some ⟨bm,0,none⟩)] 33 func86 rfl rfl (C.sr λK1=>O.j (O.j (K1 (C.sr λK2=>O.mv (O.call call57 (args2 rfl rfl) (rdNum_spec b vr l k F 18446744073709551615#64 _ ho hl hk (λj hj=>by have q1:=hF j hj;omega) hL) ?_)))));rintro v_10 w1 ⟨nv10,env10,knv10,rfl,hov10,hcv10,e1⟩;have z1:=e1.size;refine O.mv (O.extract rfl rfl (O.extract rfl rfl (O.j (O.j (K2 (C.sq λK3=>C.sr λK4=>O.mv (O.neqI rfl rfl (K4 (C.condD rfl (λc14=>?_) (λc14=>?_))))))))))
 ·
  refine C.sr λK5=>O.mv (O.j (O.j (K5 (C.ret (Outs.two rfl rfl rfl ?_)))))
  first
  |(rcases hcv10 with ⟨q1,_⟩|⟨q1,_,q3,q4⟩
    ·exact absurd q1 c14
    ·exact ⟨[],env10,knv10,rfl,hov10,.inr ⟨q1,trivial,Cn.no_str_len (q4.mono λq _=>by have h9:=q.isLt;show q.toNat<=18446744073709551615;omega) (by omega)⟩,(Ext.nw (Ext.L _ _) e1)⟩)
  |exact ⟨[],5,knv10,rfl,hov10,.inr ⟨by decide,trivial,Cn.no_str hs10 (.inl (by have:=nv10.isLt;first|omega|(rw[BitVec.lt_def,BitVec.toNat_ofInt] at c23;unfold InI at hmost;omega)))⟩,(Ext.nw (Ext.L _ _) e1)⟩
  |(rcases hcv27 with ⟨q1,q2,q3,q4⟩|⟨q1,q2,q3⟩
    ·exact ⟨sv27,env27,knv27,rfl,hov10,.inl ⟨q1,by rw[q4,List.length_take,List.length_drop];rw[BitVec.lt_def,BitVec.toNat_ofInt] at c23;unfold InI at hmost;omega,by rw[q3,q4];exact Cn.seg_str hs10 q2⟩,(Ext.nw (Ext.L _ _) e1)⟩
    ·exact ⟨sv27,env27,knv27,rfl,hov10,.inr ⟨by omega,trivial,Cn.no_str hs10 (.inr q2)⟩,(Ext.nw (Ext.L _ _) e1)⟩)
 obtain ⟨q1,hs10⟩:env10=0∧Cn.Seg (Cn.num nv10.toNat) l k knv10:=by
  rcases hcv10 with ⟨q1,_,q2⟩|⟨q1,_⟩
  ·exact ⟨q1,q2⟩
  ·exfalso;omega
 have hk10:=hs10.2.2;refine C.skip (K3 (C.sq λK6=>C.sr λK7=>O.loadO isAgg3 rfl (hm.kO e1) rfl (O.lssI rfl rfl (O.mv (O.splitD (x:=.tmp 18) rfl (λc18=>?_) (λc18=>?_))))))
 ·
  refine O.no rfl (noB (isT rfl c18) rfl) (O.no rfl (noB (isT rfl c18) rfl) (O.no rfl (noB (isT rfl c18) rfl) (O.no rfl (noB (isT rfl c18) rfl) (O.pickT (isT rfl c18) (K7 (C.condT rfl (C.sr λK8=>O.j (O.j (K8 (C.ret (Outs.two rfl rfl rfl ?_)))))))))))
  first
  |(rcases hcv10 with ⟨q1,_⟩|⟨q1,_,q3,q4⟩
    ·exact absurd q1 c14
    ·exact ⟨[],env10,knv10,rfl,hov10,.inr ⟨q1,trivial,Cn.no_str_len (q4.mono λq _=>by have h9:=q.isLt;show q.toNat<=18446744073709551615;omega) (by omega)⟩,(Ext.nw (Ext.L _ _) e1)⟩)
  |exact ⟨[],5,knv10,rfl,hov10,.inr ⟨by decide,trivial,Cn.no_str hs10 (.inl (by have:=nv10.isLt;first|omega|(rw[BitVec.lt_def,BitVec.toNat_ofInt] at c23;unfold InI at hmost;omega)))⟩,(Ext.nw (Ext.L _ _) e1)⟩
  |(rcases hcv27 with ⟨q1,q2,q3,q4⟩|⟨q1,q2,q3⟩
    ·exact ⟨sv27,env27,knv27,rfl,hov10,.inl ⟨q1,by rw[q4,List.length_take,List.length_drop];rw[BitVec.lt_def,BitVec.toNat_ofInt] at c23;unfold InI at hmost;omega,by rw[q3,q4];exact Cn.seg_str hs10 q2⟩,(Ext.nw (Ext.L _ _) e1)⟩
    ·exact ⟨sv27,env27,knv27,rfl,hov10,.inr ⟨by omega,trivial,Cn.no_str hs10 (.inr q2)⟩,(Ext.nw (Ext.L _ _) e1)⟩)
 refine O.yes rfl (isF rfl c18) (O.mv (O.yes rfl (isF rfl c18) (O.loadO isAgg3 rfl (hm.kO e1) rfl (O.yes rfl (isF rfl c18) (O.convIU (m':=64) U3 U76 rfl rfl rfl (O.yes rfl (isF rfl c18) (O.gtrU (m:=64) rfl rfl (O.pickF (isF rfl c18) (K7 (C.condD rfl (λc23=>?_) (λc23=>?_)))))))))))
 ·
  refine C.sr λK9=>O.j (O.j (K9 (C.ret (Outs.two rfl rfl rfl ?_))))
  first
  |(rcases hcv10 with ⟨q1,_⟩|⟨q1,_,q3,q4⟩
    ·exact absurd q1 c14
    ·exact ⟨[],env10,knv10,rfl,hov10,.inr ⟨q1,trivial,Cn.no_str_len (q4.mono λq _=>by have h9:=q.isLt;show q.toNat<=18446744073709551615;omega) (by omega)⟩,(Ext.nw (Ext.L _ _) e1)⟩)
  |exact ⟨[],5,knv10,rfl,hov10,.inr ⟨by decide,trivial,Cn.no_str hs10 (.inl (by have:=nv10.isLt;first|omega|(rw[BitVec.lt_def,BitVec.toNat_ofInt] at c23;unfold InI at hmost;omega)))⟩,(Ext.nw (Ext.L _ _) e1)⟩
  |(rcases hcv27 with ⟨q1,q2,q3,q4⟩|⟨q1,q2,q3⟩
    ·exact ⟨sv27,env27,knv27,rfl,hov10,.inl ⟨q1,by rw[q4,List.length_take,List.length_drop];rw[BitVec.lt_def,BitVec.toNat_ofInt] at c23;unfold InI at hmost;omega,by rw[q3,q4];exact Cn.seg_str hs10 q2⟩,(Ext.nw (Ext.L _ _) e1)⟩
    ·exact ⟨sv27,env27,knv27,rfl,hov10,.inr ⟨by omega,trivial,Cn.no_str hs10 (.inr q2)⟩,(Ext.nw (Ext.L _ _) e1)⟩)
 refine C.skip (K6 (C.sr λK10=>O.mv (O.mv (O.call call84 (args2 rfl rfl) (rtake_spec b vr l knv10 F nv10 _ hov10 (hl.keepA e1) hk10 (λj hj=>by have q1:=hF j hj;omega) hL) ?_))));rintro v_27 w2 ⟨vbv27,sv27,env27,knv27,rfl,hov27,hbv27,hcv27,e2⟩;have z2:=e2.size;have hb27s:=hbv27.sl;refine O.mv (O.extract rfl rfl (O.extract rfl rfl (O.j (O.j (K10 (C.sr λK11=>O.mv (O.bytesS U23 U5 U9 rfl hb27s (O.mv (O.j (O.j (K11 (C.ret (Outs.two rfl rfl rfl ?_)))))))))))))
 first
 |(rcases hcv10 with ⟨q1,_⟩|⟨q1,_,q3,q4⟩
   ·exact absurd q1 c14
   ·exact ⟨[],env10,knv10,rfl,hov27,.inr ⟨q1,trivial,Cn.no_str_len (q4.mono λq _=>by have h9:=q.isLt;show q.toNat<=18446744073709551615;omega) (by omega)⟩,(Ext.nw (Ext.nw (Ext.L _ _) e1) e2)⟩)
 |exact ⟨[],5,knv10,rfl,hov27,.inr ⟨by decide,trivial,Cn.no_str hs10 (.inl (by have:=nv10.isLt;first|omega|(rw[BitVec.lt_def,BitVec.toNat_ofInt] at c23;unfold InI at hmost;omega)))⟩,(Ext.nw (Ext.nw (Ext.L _ _) e1) e2)⟩
 |(rcases hcv27 with ⟨q1,q2,q3,q4⟩|⟨q1,q2,q3⟩
   ·exact ⟨sv27,env27,knv27,rfl,hov27,.inl ⟨q1,by rw[q4,List.length_take,List.length_drop];rw[BitVec.lt_def,BitVec.toNat_ofInt] at c23;unfold InI at hmost;omega,by rw[q3,q4];exact Cn.seg_str hs10 q2⟩,(Ext.nw (Ext.nw (Ext.L _ _) e1) e2)⟩
   ·exact ⟨sv27,env27,knv27,rfl,hov27,.inr ⟨by omega,trivial,Cn.no_str hs10 (.inr q2)⟩,(Ext.nw (Ext.nw (Ext.L _ _) e1) e2)⟩)
theorem wholeS_spec (b:Nat)(vr:Value)(l:List UInt8)(k:Nat)(F:Nat->Prop)(bm:Nat)(most:Int)(w:World)(ho:Own w b 131 [.bool true,vr,.int .i64 ((k:Int))])(hl:Sl byteE w F vr l)(hk:k<=l.length)(hF:∀j,F j->j≠b∧j<w.heap.size)(hL:l.length<=1000000)(hm:Own w bm 3 [.int .i64 most])(hne:bm≠b)(hmost:InI most):
 Ret prog 85 #[.pointer (some ⟨b,0,none⟩),.func (.func 86) #[] #[.pointer (some ⟨bm,0,none⟩)]] w (λv w'=>∃(s:List UInt8) (e:Int) (k':Nat),v=.tuple #[str s,.int .i64 e]∧Own w' b 131 [.bool true,vr,.int .i64 ((k':Int))]∧((e=0∧(s.length:Int)<=most∧Cn.Seg (Cn.strB s) l k k')∨(0<e∧k'=k∧s=[]∧Cn.No (λs:List UInt8=>(s.length:Int)<=most) Cn.strB l k))∧Ext (λj=>j=b) w w'):=by
 have _hF9:=hF;have _hk9:=hk;have hbl:=ho.lt;have hll:=hl.le;refine enT [.pointer (some ⟨b,0,none⟩),.func (.func 86) #[] #[.pointer (some ⟨bm,0,none⟩)]] 32 func85 rfl rfl (C.sr λK1=>O.j (O.j (K1 (C.sr λK2=>O.j (K2 (C.sq λK3=>C.sr λK4=>O.mv (O.call call83 (args1 rfl) (zero_spec b vr l _ F _ ho hl (by omega) (λj hj=>by have q1:=hF j hj;omega)) ?_)))))));rintro v_11 w1 ⟨rfl,hw_⟩;replace hw_:=hw_.symm;subst hw_;refine K4 (C.condF rfl (C.skip (K3 (C.sr λK5=>O.mv (O.nilChk rfl (O.fa U131 rfl Z3 rfl (O.loadO isAgg3 rfl ho rfl (O.j (K5 (C.sr λK6=>O.mv (O.mv (O.callV (vs:=[.pointer (some ⟨b,0,none⟩)]) call86 rfl (args1 rfl) (rstr1_spec b vr l k F bm most _ ho hl hk (λj hj=>by have q1:=hF j hj;omega) hL hm hne hmost) ?_))))))))))));rintro v_20 w1 ⟨nv20,env20,knv20,rfl,hov20,hcv20,e1⟩;have z1:=e1.size;refine O.mv (O.extract rfl rfl (O.extract rfl rfl (O.j (O.j (K6 (C.sq λK7=>C.sr λK8=>O.mv (O.neqI rfl rfl (K8 (C.condD rfl (λc24=>?_) (λc24=>?_))))))))))
 ·
  refine C.sr λK9=>O.mv (O.mv (O.cast (v':=.int .i64 (k:Int)) rfl (O.nilChk rfl (O.fa U131 rfl Z3 rfl (O.store Z3 rfl rfl rfl hov20 (by simp) (λw2 hs2 e2 z2=>?_))))))
  try simp only[Nat.zero_add] at hs2
  refine K9 (C.sr λK10=>O.mv (O.mv (O.j (O.j (K10 (C.ret (Outs.two rfl rfl rfl ?_)))))));rcases hcv20 with ⟨q1,q2⟩|⟨q1,q2⟩
  ·first
   |exact absurd q1 c24
   |exact ⟨nv20,0,knv20,rfl,hs2,.inl ⟨rfl,q2⟩,(Ext.nw (Ext.nw (Ext.L _ _) e1) e2)⟩
  ·first
   |exact ⟨[],env20,k,rfl,hs2,.inr ⟨q1,rfl,rfl,q2.2⟩,(Ext.nw (Ext.nw (Ext.L _ _) e1) e2)⟩
   |omega
 refine C.skip (K7 (C.sr λK11=>O.mv (O.j (O.j (K11 (C.ret (Outs.two rfl rfl rfl ?_)))))));rcases hcv20 with ⟨q1,q2⟩|⟨q1,q2⟩
 ·first
  |exact absurd q1 c24
  |exact ⟨nv20,0,knv20,rfl,hov20,.inl ⟨rfl,q2⟩,(Ext.nw (Ext.L _ _) e1)⟩
 ·first
  |exact ⟨[],env20,k,rfl,hov20,.inr ⟨q1,rfl,rfl,q2.2⟩,(Ext.nw (Ext.L _ _) e1)⟩
  |omega
theorem rdStr_spec (b:Nat)(vr:Value)(l:List UInt8)(k:Nat)(F:Nat->Prop)(most:Int)(w:World)(ho:Own w b 131 [.bool true,vr,.int .i64 ((k:Int))])(hl:Sl byteE w F vr l)(hk:k<=l.length)(hF:∀j,F j->j≠b∧j<w.heap.size)(hL:l.length<=1000000)(hmost:InI most):
 Ret prog 56 #[.pointer (some ⟨b,0,none⟩),.int .i64 (most)] w (λv w'=>∃(s:List UInt8) (e:Int) (k':Nat),v=.tuple #[str s,.int .i64 e]∧Own w' b 131 [.bool true,vr,.int .i64 ((k':Int))]∧((e=0∧(s.length:Int)<=most∧Cn.Seg (Cn.strB s) l k k')∨(0<e∧k'=k∧s=[]∧Cn.No (λs:List UInt8=>(s.length:Int)<=most) Cn.strB l k))∧Ext (λj=>j=b) w w'):=by
 have _hF9:=hF;have _hk9:=hk;have hbl:=ho.lt;have hll:=hl.le;refine enT [.pointer (some ⟨b,0,none⟩),.int .i64 (most)] 11 func56 rfl rfl (C.sr λK1=>O.box (v:=.int .i64 (most)) rfl (λb3 w1 hb3 hz3 e1=>?_));have z1:=e1.size;have h3:=hz3.own;have hl3:=h3.lt;refine O.j (O.j (K1 (C.sr λK2=>O.mv (O.makeF (v1:=[]) rfl rfl (O.call call85 (args2 rfl rfl) (wholeS_spec b vr l k F b3 most _ (ho.L e1) (hl.L e1) hk (λj hj=>by have q1:=hF j hj;omega) hL h3 (by omega) hmost) ?_)))));rintro v_8 w2 ⟨nv8,env8,knv8,rfl,hov8,hcv8,e2⟩;have z2:=e2.size;refine O.extract rfl rfl (O.extract rfl rfl (O.j (O.j (K2 (C.ret (Outs.two rfl rfl rfl ?_))))));exact ⟨nv8,env8,knv8,rfl,hov8,hcv8,(Ext.nw (Ext.nw (Ext.L _ _) e1) e2)⟩
theorem rdLeft_spec (b:Nat)(vr:Value)(l:List UInt8)(k:Nat)(F:Nat->Prop)(w:World)(ho:Own w b 131 [.bool true,vr,.int .i64 ((k:Int))])(hl:Sl byteE w F vr l)(hk:k<=l.length)(hF:∀j,F j->j≠b∧j<w.heap.size):
 Ret prog 89 #[.pointer (some ⟨b,0,none⟩)] w (λv w'=>v=.int .i64 ((l.length-k:Nat):Int)∧Le w w'):=by
 have _hF9:=hF;have _hk9:=hk;have hbl:=ho.lt;have hll:=hl.le;refine enT [.pointer (some ⟨b,0,none⟩)] 8 func89 rfl rfl (C.sr λK1=>O.j (K1 (C.sq λK2=>C.sr λK3=>O.mv (O.call call83 (args1 rfl) (zero_spec b vr l _ F _ ho hl (by omega) (λj hj=>by have q1:=hF j hj;omega)) ?_))));rintro v_4 w1 ⟨rfl,hw_⟩;replace hw_:=hw_.symm;subst hw_;refine K3 (C.condF rfl (C.skip (K2 (C.sr λK4=>O.mv (O.call call106 (args1 rfl) (rest_spec b vr l k F _ ho hl hk (λj hj=>by have q1:=hF j hj;omega)) ?_)))));rintro v_6 w1 ⟨e1,h6⟩;have z1:=e1.size;refine O.len U23 rfl h6 (O.cast (v':=.int .i64 ((l.length-k:Nat):Int)) (cI (by rw[List.length_drop])) (O.j (K4 (C.ret (Outs.one rfl rfl ?_)))));exact ⟨rfl,e1⟩
theorem rdEnd_spec (b:Nat)(vr:Value)(l:List UInt8)(k:Nat)(F:Nat->Prop)(w:World)(ho:Own w b 131 [.bool true,vr,.int .i64 ((k:Int))])(hl:Sl byteE w F vr l)(hk:k<=l.length)(hF:∀j,F j->j≠b∧j<w.heap.size):
 Ret prog 58 #[.pointer (some ⟨b,0,none⟩)] w (λv w'=>v=.int .i64 (if k<l.length then 12 else 0)∧Le w w'):=by
 have _hF9:=hF;have _hk9:=hk;have hbl:=ho.lt;have hll:=hl.le;refine enT [.pointer (some ⟨b,0,none⟩)] 10 func58 rfl rfl (C.sr λK1=>O.j (K1 (C.sq λK2=>C.bl λK3=>C.sr λK4=>O.mv (O.call call83 (args1 rfl) (zero_spec b vr l _ F _ ho hl (by omega) (λj hj=>by have q1:=hF j hj;omega)) ?_))));rintro v_5 w1 ⟨rfl,hw_⟩;replace hw_:=hw_.symm;subst hw_;refine O.j (K4 (C.condF rfl (C.sr λK5=>O.mv (O.call call89 (args1 rfl) (rdLeft_spec b vr l k F _ ho hl hk (λj hj=>by have q1:=hF j hj;omega)) ?_))));rintro v_8 w1 ⟨rfl,e1⟩;have z1:=e1.size;refine O.gtrI rfl rfl (O.j (K5 (C.condD rfl (λc6=>?_) (λc6=>?_))))
 ·
  refine C.sr λK6=>O.j (K6 (C.ret (Outs.one rfl rfl (⟨congrArg (Value.int .i64) ?_,e1⟩))))
  first
  |rw[if_pos (by omega)]
  |rw[if_neg (by omega)]
 refine C.skip (K3 (K2 (C.sr λK7=>O.j (K7 (C.ret (Outs.one rfl rfl (⟨congrArg (Value.int .i64) ?_,e1⟩)))))))
 first
 |rw[if_pos (by omega)]
 |rw[if_neg (by omega)]
theorem rdNew_spec (v0:Value)(l:List UInt8)(F:Nat->Prop)(w:World)(hl:Sl byteE w F v0 l)(hL:l.length<=1000000):
 Ret prog 53 #[v0] w (λv w'=>∃(b:Nat) (vr:Value),v=.pointer (some ⟨b,0,none⟩)∧Own w' b 131 [.bool true,vr,.int .i64 0]∧Sl byteE w' (λj=>w.heap.size<=j∧j<b) vr l∧w.heap.size<=b∧b<w'.heap.size∧Le w w'):=by
 obtain ⟨ie5,ti5,ts5,tb5,tz5⟩:=inf5;refine enT [v0] 7 func53 rfl rfl (C.sr λK1=>O.j (K1 (C.sr λK2=>O.mv (O.call call80 (args1 rfl) (cloneB_spec _ l _ _ hl (by omega)) ?_))));rintro v_4 w1 ⟨e1,h4⟩;have z1:=e1.size;have h4s:=h4.sl;have h4b:=h4.bk_ge;obtain ⟨a4,rfl⟩:=h4s.slv;refine O.build (cells:=#[.bool true,slv a4,.int .i64 0]) rfl (by kernel_rfl) (O.box (v:=.agg #[.bool true,slv a4,.int .i64 0]) rfl (λb6 w2 hb6 hz6 e2=>?_));have z2:=e2.size;have h6:=hz6.own;have hl6:=h6.lt;refine O.j (K2 (C.ret (Outs.one rfl rfl ?_)));exact ⟨b6,slv a4,rfl,h6,((h4s.L e2)).weak (by intro j hj;have:=h4b j hj;omega),by omega,hl6,(Ext.T e1 e2)⟩
theorem inf9:∃ie,prog.info? 9=some ie∧ie.size=1∧ie.bytes=16∧ie.zero=some (.string ⟨#[]⟩):=by
 have h:(prog.info? 9).isSome=true:=by kernel_rfl
 exact ⟨(prog.info? 9).get h,(Option.some_get h).symm,by kernel_rfl,by kernel_rfl,by kernel_rfl⟩
structure Gw (w:World):Prop where
 m:∃m,CellIs w 1 (.int .i64 m)
 t:Lib.TabIs prog w "internal/strconv.uint64pow10" .u64 Lib.pow10Tab
 s:∃v,CellIs w 2 v∧∃te pe,v=.iface te pe
 r:∃v,CellIs w 3 v∧∃te pe,v=.iface te pe
 o:Row rowF.enc w (λk=>k=0) 0 0 Cl.rows
theorem Gw.L {w w':World}(h:Gw w)(e:Le w w'):Gw w':=by
 obtain ⟨m,hm⟩:=h.m;obtain ⟨s,hs,hs2⟩:=h.s;obtain ⟨r,hr,hr2⟩:=h.r;exact ⟨⟨m,hm.L e⟩,Go.Joins.tab_stays (B:=w.heap.size) (g:=4) (by kernel_rfl) h.t e.below (Nat.le_refl _),⟨s,hs.L e,hs2⟩,⟨r,hr.L e,hr2⟩,h.o.L e⟩
theorem find_spec (o:Int)(w:World)(gw:Gw w):
 Ret prog 40 #[.int .i64 (o)] w (λv w'=>v=.tuple #[.agg #[str (Cl.word o),str (Cl.parts o)],.bool (Cl.isOp o)]∧Le w w'):=by
 have hrw:=gw.o;refine enT [.int .i64 (o)] 14 func40 rfl rfl (C.sr λK1=>O.alloc zeroValue72 (λb2 w1 hb2 hz2 e1=>?_));have z1:=e1.size;have h2:=hz2.own;have hl2:=h2.lt;refine O.j (K1 (C.sq λK2=>C.sr λK3=>O.mv (O.lssI rfl rfl (O.mv (O.cut 3 (λf f'=>f' 9=.bool (decide (o<1∨12<=o))∧f' 0=f 0∧f' 2=f 2∧f' 3=f 3) ?_ ?_)))))
 ·
  refine O.splitD (x:=.tmp 6) rfl (λc6=>?_) (λc6=>?_)
  ·
   refine O.no rfl (noB (isT rfl c6) rfl) (O.no rfl (noB (isT rfl c6) rfl) (O.pickT (isT rfl c6) (O.o (⟨⟨?_,rfl,rfl,rfl⟩,rfl⟩))));exact dJ rfl
  refine O.yes rfl (isF rfl c6) (O.mv (O.yes rfl (isF rfl c6) (O.geqI rfl rfl (O.pickF (isF rfl c6) (O.o (⟨⟨?_,rfl,rfl,rfl⟩,rfl⟩))))));exact dJ rfl
 rintro f_1 ⟨s9_1,s0_1,s2_1,s3_1⟩;refine K3 (C.condD s9_1 (λc9=>?_) (λc9=>?_))
 ·
  have hno:Cl.isOp o=false:=by simp only[Cl.isOp,decide_eq_false_iff_not];omega
  refine C.sr λK4=>O.build (cells:=#[str [],str []]) rfl (by kernel_rfl) (O.cast (v':=.agg #[str (Cl.word o),str (Cl.parts o)]) (by rw[Cl.word_no hno,Cl.parts_no hno]) (O.storeA (vs:=[str (Cl.word o),str (Cl.parts o)]) Z72 rfl s2_1 rfl (by intro u hu;simp only[List.mem_cons,List.not_mem_nil,or_false] at hu;rcases hu with rfl|rfl<;>rfl) h2 (leB rfl) (λw2 hs2 e2 z2=>O.j (K4 (C.ret (Outs.cellA2 rfl isAgg72 Z72 s2_1 rfl hs2 rfl ?_))))))
  exact ⟨by first|(rw[hno];rfl)|(rw[ho];rfl),(Ext.nr e1 e2)⟩
 have ho:Cl.isOp o=true:=dT (by omega);have sp1_:=Cl.op_row ho;obtain ⟨hp9,hr9⟩:=sp1_;refine C.skip (K2 (C.sr λK5=>O.mv (O.idxA U73 Z72 rfl s0_1 (by omega) ?_)));have h12:=Row.at (hrw.L e1) (i:=o.toNat) hp9;refine O.loadG (G:=rowF) isAgg72 Z72 rfl h12 (O.cast (v':=.agg #[str (Cl.word o),str (Cl.parts o)]) (by rw[hr9];rfl) (O.storeA (vs:=[str (Cl.word o),str (Cl.parts o)]) Z72 rfl s2_1 rfl (by intro u hu;simp only[List.mem_cons,List.not_mem_nil,or_false] at hu;rcases hu with rfl|rfl<;>rfl) h2 (leB rfl) (λw3 hs3 e3 z3=>O.j (K5 (C.ret (Outs.cellA2 rfl isAgg72 Z72 s2_1 rfl hs3 rfl ?_))))));exact ⟨by first|(rw[hno];rfl)|(rw[ho];rfl),(Ext.nr e1 e3)⟩
theorem named_spec (s:List UInt8)(w:World)(gw:Gw w):
 Ret prog 69 #[str (s)] w (λv w'=>v=.tuple #[.int .i64 (Cl.opOf s:Int),.bool (decide (0<Cl.opOf s))]∧Le w w'):=by
 have hrw:=gw.o;refine enT [str (s)] 20 func69 rfl rfl (C.sr λK1=>O.j (O.j (K1 (C.sq λK2=>C.sr λK3=>O.mv (K3 (C.bl λK4=>C.loop0 (σ:=Nat) (λf0 w0 k f w=>f 5=.int .i64 ((k:Int))∧f 0=f0 0∧w=w0∧k<=12∧∀j,0<j->j<k->∀h2:j<12,(Cl.rows[j]'h2).1≠s) (λk=>12-k) 0 ?_ ?_))))))
 ·
  refine ⟨rfl,rfl,rfl,?_⟩;exact ⟨by omega,λj _ h=>by omega⟩
 rintro k f_1 wx ⟨s5_1,s0_1,rfl,⟨hk,hI⟩⟩;refine C.sr λK5=>O.lssI s5_1 rfl (K5 (C.sq λK6=>C.condD rfl (λc6=>?_) (λc6=>?_)))
 ·
  refine C.skip (K6 (C.sq λK7=>C.bl λK8=>C.sr λK9=>O.mv (O.j (K9 (C.sr λK10=>O.mv (O.gtrI s5_1 rfl (O.mv (O.cut 7 (λf f'=>f' 17=.bool (decide ((k:Int)>0∧(Cl.rows[k]'(by show k<12;omega)).1=s))∧f' 0=f 0∧f' 4=f 4∧f' 5=f 5) ?_ ?_))))))))
  ·
   refine O.splitD (x:=.tmp 10) rfl (λc10=>?_) (λc10=>?_)
   ·
    refine O.yes rfl (isT rfl c10) (O.mv (O.yes rfl (isT rfl c10) (O.idxA U73 Z72 rfl s5_1 (by omega) ?_)));have h12:=Row.at hrw (i:=k) (by show k<12;omega);refine O.yes rfl (isT rfl c10) (O.ft U72 rfl Z9 rfl (O.yes rfl (isT rfl c10) (O.loadAtF (G:=rowF) isAgg9 rfl rfl h12 (O.yes rfl (isT rfl c10) (O.mv (O.yes rfl (isT rfl c10) (O.eqlS rfl s0_1 (O.pickT (isT rfl c10) (O.o (⟨⟨?_,rfl,rfl,rfl⟩,rfl⟩))))))))));exact dJ rfl
   refine O.no rfl (noB (isF rfl c10) rfl) (O.no rfl (noB (isF rfl c10) rfl) (O.no rfl (noB (isF rfl c10) rfl) (O.no rfl (noB (isF rfl c10) rfl) (O.no rfl (noB (isF rfl c10) rfl) (O.no rfl (noB (isF rfl c10) rfl) (O.pickF (isF rfl c10) (O.o (⟨⟨?_,rfl,rfl,rfl⟩,rfl⟩))))))));exact dJ rfl
  rintro f_2 ⟨s17_2,s0_2,s4_2,s5_2⟩;refine K10 (C.condD s17_2 (λc17=>?_) (λc17=>?_))
  ·
   refine C.sr λK11=>O.mv (O.j (O.j (K11 (C.ret (Outs.two rfl (Eq.trans s4_2 s5_1) rfl ?_)))))
   exact ⟨by first|(rw[Cl.opOf_some (by omega) (by omega) c17.2];rw[dT (by omega:0<k)];rfl)|(rw[Cl.opOf_none (λj h1 h2=>hI j h1 (by omega) h2)];rfl),leR⟩
  refine C.skip (K8 (K7 (C.region (O.ad (Eq.trans s5_2 s5_1) rfl (O.mv (O.o (⟨k+1,⟨rfl,(Eq.trans s0_2 s0_1),rfl,?_⟩,by first|omega|(simp only[];omega)⟩)))))));exact ⟨by omega,λj h1 h2 h3=>by rcases Nat.lt_succ_iff_lt_or_eq.1 h2 with h4|rfl;exact hI j h1 h4 h3;first|(intro e;exact c17 ⟨by omega,e⟩)|(intro e;omega)⟩
 refine C.exit (K4 (K2 (C.sr λK12=>O.j (O.j (K12 (C.ret (Outs.two rfl rfl rfl ?_)))))));exact ⟨by first|(rw[Cl.opOf_some (by omega) (by omega) c17.2];rw[dT (by omega:0<k)];rfl)|(rw[Cl.opOf_none (λj h1 h2=>hI j h1 (by omega) h2)];rfl),leR⟩
theorem between_spec (s:List UInt8)(n:BitVec 8)(w:World)(hs:s.length<=1000000):
 Ret prog 41 #[str (s),.int .u8 ((n).toNat:Int)] w (λv w'=>v=.bool (Cl.between n.toNat s)∧Le w w'):=by
 refine enT [str (s),.int .u8 ((n).toNat:Int)] 30 func41 rfl rfl (C.sr λK1=>O.j (K1 (C.sq λK2=>C.sr λK3=>O.mv (O.lenS U9 rfl (O.mv (K3 (C.bl λK4=>C.loop0 (σ:=Nat) (λf0 w0 k f w=>f 8=.int .i64 ((k:Int))∧f 0=f0 0∧f 1=f0 1∧f 7=f0 7∧w=w0∧k<=s.length∧∀c∈s.take k,n.toNat<=c.toNat∧c.toNat<=126) (λk=>s.length-k) 0 ?_ ?_)))))))
 ·
  refine ⟨rfl,rfl,rfl,rfl,rfl,?_⟩;exact ⟨by omega,λc h=>by simp at h⟩
 rintro k f_1 wx ⟨s8_1,s0_1,s1_1,s7_1,rfl,⟨hk,hI⟩⟩;have hk2:=hk;refine C.sr λK5=>O.lssI s8_1 s7_1 (K5 (C.sq λK6=>C.condD rfl (λc9=>?_) (λc9=>?_)))
 ·
  refine C.skip (K6 (C.sq λK7=>C.bl λK8=>C.sr λK9=>O.mv (O.j (K9 (C.sr λK10=>O.mv (O.mv (O.indexS U9 s0_1 s8_1 (by simp;omega) (O.mv (O.lssU (m:=8) rfl s1_1 (O.mv (O.cut 5 (λf f'=>f' 21=.bool (decide ((s.getD ((k:Int)).toNat 0).toBitVec<n∨126#8<(s.getD ((k:Int)).toNat 0).toBitVec))∧f' 0=f 0∧f' 1=f 1∧f' 7=f 7∧f' 8=f 8) ?_ ?_)))))))))))
  ·
   refine O.splitD (x:=.tmp 16) rfl (λc16=>?_) (λc16=>?_)
   ·
    refine O.no rfl (noB (isT rfl c16) rfl) (O.no rfl (noB (isT rfl c16) rfl) (O.no rfl (noB (isT rfl c16) rfl) (O.no rfl (noB (isT rfl c16) rfl) (O.pickT (isT rfl c16) (O.o (⟨⟨?_,rfl,rfl,rfl,rfl⟩,rfl⟩))))));exact dJ rfl
   refine O.yes rfl (isF rfl c16) (O.mv (O.yes rfl (isF rfl c16) (O.mv (O.yes rfl (isF rfl c16) (O.indexS U9 s0_1 s8_1 (by simp;omega) (O.yes rfl (isF rfl c16) (O.gtrU (m:=8) (b:=126#8) rfl rfl (O.pickF (isF rfl c16) (O.o (⟨⟨?_,rfl,rfl,rfl,rfl⟩,rfl⟩))))))))));exact dJ rfl
  rintro f_2 ⟨s21_2,s0_2,s1_2,s7_2,s8_2⟩;refine K10 (C.condD s21_2 (λc21=>?_) (λc21=>?_))
  ·
   refine C.sr λK11=>O.j (K11 (C.ret (Outs.one rfl rfl ?_)))
   exact ⟨cB (Cl.between_no (k:=k) (by omega) c21),leR⟩
  refine C.skip (K8 (K7 (C.region (O.ad (Eq.trans s8_2 s8_1) rfl (O.mv (O.o (⟨k+1,⟨rfl,(Eq.trans s0_2 s0_1),(Eq.trans s1_2 s1_1),(Eq.trans s7_2 s7_1),rfl,?_⟩,by first|omega|(simp only[];omega)⟩)))))));exact ⟨by omega,by rw[List.take_add_one,List.getElem?_eq_getElem (by omega)];exact λc h=>by rcases List.mem_append.1 h with h|h;exact hI c h;(have h9:=List.mem_singleton.1 (by simpa using h);subst h9;exact Cl.between_in (by omega) (by first|exact c21|exact c22))⟩
 refine C.exit (K4 (K2 (C.sr λK12=>O.mv (O.neqS s0_1 rfl (O.mv (O.cut 4 (λf f'=>f' 29=.bool (decide (s≠[]∧(s.length:Int)<=100))) ?_ ?_))))))
 ·
  refine O.splitD (x:=.tmp 25) rfl (λc25=>?_) (λc25=>?_)
  ·
   refine O.yes rfl (isT rfl c25) (O.mv (O.yes rfl (isT rfl c25) (O.lenS U9 s0_1 (O.yes rfl (isT rfl c25) (O.leqI rfl rfl (O.pickT (isT rfl c25) (O.o (⟨?_,rfl⟩))))))));exact dJ rfl
  refine O.no rfl (noB (isF rfl c25) rfl) (O.no rfl (noB (isF rfl c25) rfl) (O.no rfl (noB (isF rfl c25) rfl) (O.pickF (isF rfl c25) (O.o (⟨?_,rfl⟩)))));exact dJ rfl
 intro f_3 s29_3;refine O.j (K12 (C.ret (Outs.one rfl s29_3 ?_)));exact ⟨cB (by exact Cl.between_yes (by rw[List.take_of_length_le (by omega)] at hI;exact hI) (by first|exact decide_eq_decide.2 (by rw[<-List.length_pos_iff];omega)|exact decide_eq_decide.2 (by omega))),leR⟩
theorem rbetween_spec (s:List UInt8)(n:BitVec 8)(w:World)(hs:s.length<=1000000):
 Ret prog 45 #[str (s),.int .u8 ((n).toNat:Int)] w (λv w'=>v=.bool (Cl.between n.toNat s)∧Le w w'):=by
 refine enT [str (s),.int .u8 ((n).toNat:Int)] 31 func45 rfl rfl (C.sr λK1=>O.j (K1 (C.sq λK2=>C.sr λK3=>O.j (K3 (C.bl λK4=>C.loop0 (σ:=Nat) (λf0 w0 k f w=>f 5=.int .i64 ((k:Int))∧f 0=f0 0∧f 1=f0 1∧w=w0∧k<=s.length∧∀c∈s.take k,n.toNat<=c.toNat∧c.toNat<=126) (λk=>s.length-k) 0 ?_ ?_)))))
 ·
  refine ⟨rfl,rfl,rfl,rfl,?_⟩;exact ⟨by omega,λc h=>by simp at h⟩
 rintro k f_1 wx ⟨s5_1,s0_1,s1_1,rfl,⟨hk,hI⟩⟩;have hk2:=hk;refine C.sq λK5=>C.sr λK6=>O.mv (O.mv (O.lenS U9 s0_1 (O.lssI s5_1 rfl (K6 (C.condD rfl (λc9=>?_) (λc9=>?_))))))
 ·
  refine C.skip (K5 (C.sq λK7=>C.bl λK8=>C.sr λK9=>O.mv (O.mv (O.indexS U9 s0_1 s5_1 (by simp;omega) (O.mv (O.lssU (m:=8) rfl s1_1 (O.mv (O.cut 5 (λf f'=>f' 22=.bool (decide ((s.getD ((k:Int)).toNat 0).toBitVec<n∨126#8<(s.getD ((k:Int)).toNat 0).toBitVec))∧f' 0=f 0∧f' 1=f 1∧f' 5=f 5) ?_ ?_))))))))
  ·
   refine O.splitD (x:=.tmp 17) rfl (λc17=>?_) (λc17=>?_)
   ·
    refine O.no rfl (noB (isT rfl c17) rfl) (O.no rfl (noB (isT rfl c17) rfl) (O.no rfl (noB (isT rfl c17) rfl) (O.no rfl (noB (isT rfl c17) rfl) (O.pickT (isT rfl c17) (O.o (⟨⟨?_,rfl,rfl,rfl⟩,rfl⟩))))));exact dJ rfl
   refine O.yes rfl (isF rfl c17) (O.mv (O.yes rfl (isF rfl c17) (O.mv (O.yes rfl (isF rfl c17) (O.indexS U9 s0_1 s5_1 (by simp;omega) (O.yes rfl (isF rfl c17) (O.gtrU (m:=8) (b:=126#8) rfl rfl (O.pickF (isF rfl c17) (O.o (⟨⟨?_,rfl,rfl,rfl⟩,rfl⟩))))))))));exact dJ rfl
  rintro f_2 ⟨s22_2,s0_2,s1_2,s5_2⟩;refine K9 (C.condD s22_2 (λc22=>?_) (λc22=>?_))
  ·
   refine C.sr λK10=>O.j (K10 (C.ret (Outs.one rfl rfl ?_)))
   exact ⟨cB (Cl.between_no (k:=k) (by omega) c22),leR⟩
  refine C.skip (K8 (K7 (C.region (O.mv (O.ad (Eq.trans s5_2 s5_1) rfl (O.j (O.o (⟨k+1,⟨rfl,(Eq.trans s0_2 s0_1),(Eq.trans s1_2 s1_1),rfl,?_⟩,by first|omega|(simp only[];omega)⟩))))))));exact ⟨by omega,by rw[List.take_add_one,List.getElem?_eq_getElem (by omega)];exact λc h=>by rcases List.mem_append.1 h with h|h;exact hI c h;(have h9:=List.mem_singleton.1 (by simpa using h);subst h9;exact Cl.between_in (by omega) (by first|exact c21|exact c22))⟩
 refine C.exit (K4 (K2 (C.sr λK11=>O.mv (O.lenS U9 s0_1 (O.geqI rfl rfl (O.mv (O.cut 4 (λf f'=>f' 30=.bool (decide ((s.length:Int)≥1∧(s.length:Int)<=100))) ?_ ?_)))))))
 ·
  refine O.splitD (x:=.tmp 26) rfl (λc26=>?_) (λc26=>?_)
  ·
   refine O.yes rfl (isT rfl c26) (O.mv (O.yes rfl (isT rfl c26) (O.lenS U9 s0_1 (O.yes rfl (isT rfl c26) (O.leqI rfl rfl (O.pickT (isT rfl c26) (O.o (⟨?_,rfl⟩))))))));exact dJ rfl
  refine O.no rfl (noB (isF rfl c26) rfl) (O.no rfl (noB (isF rfl c26) rfl) (O.no rfl (noB (isF rfl c26) rfl) (O.pickF (isF rfl c26) (O.o (⟨?_,rfl⟩)))));exact dJ rfl
 intro f_3 s30_3;refine O.j (K11 (C.ret (Outs.one rfl s30_3 ?_)));exact ⟨cB (by exact Cl.between_yes (by rw[List.take_of_length_le (by omega)] at hI;exact hI) (by first|exact decide_eq_decide.2 (by rw[<-List.length_pos_iff];omega)|exact decide_eq_decide.2 (by omega))),leR⟩
theorem rword_spec (o:Int)(w:World):
 Ret prog 44 #[.int .i64 (o)] w (λv w'=>v=str (Cl.word o)∧Le w w'):=by
 obtain ⟨ie9,ti9,ts9,tb9,tz9⟩:=inf9;refine enT [.int .i64 (o)] 17 func44 rfl rfl (C.sr λK1=>O.j (K1 (C.sr λK2=>O.litn [str [],str [97,100,100],str [115,101,116],str [114,101,109,111,118,101],str [103,101,116],str [99,108,101,97,114],str [119,105,115,104],str [108,111,103,105,110],str [100,101,108,105,118,101,114],str [109,101,114,103,101],str [100,114,97,105,110],str [99,108,111,115,101]] U37 ti9 ts9 tz9 rfl (by decide) (by decide) rfl (by intro u hu;simp only[List.mem_cons,List.not_mem_nil,or_false] at hu;rcases hu with rfl|rfl|rfl|rfl|rfl|rfl|rfl|rfl|rfl|rfl|rfl|rfl<;>rfl) (λb4 w1 hb4 hz4 e1=>?_))));have z1:=e1.size;have h4:=hz4.own;have hl4:=h4.lt;refine O.j (K2 (C.sq λK3=>C.sr λK4=>O.mv (O.lssI rfl rfl (O.mv (O.cut 5 (λf f'=>f' 12=.bool (decide (o<1∨12<=o))∧f' 0=f 0∧f' 2=f 2∧f' 3=f 3) ?_ ?_)))))
 ·
  refine O.splitD (x:=.tmp 7) rfl (λc7=>?_) (λc7=>?_)
  ·
   refine O.no rfl (noB (isT rfl c7) rfl) (O.no rfl (noB (isT rfl c7) rfl) (O.no rfl (noB (isT rfl c7) rfl) (O.no rfl (noB (isT rfl c7) rfl) (O.pickT (isT rfl c7) (O.o (⟨⟨?_,rfl,rfl,rfl⟩,rfl⟩))))));exact dJ rfl
  refine O.yes rfl (isF rfl c7) (O.mv (O.yes rfl (isF rfl c7) (O.mv (O.yes rfl (isF rfl c7) (O.lenL U37 rfl (O.yes rfl (isF rfl c7) (O.geqI rfl rfl (O.pickF (isF rfl c7) (O.o (⟨⟨?_,rfl,rfl,rfl⟩,rfl⟩))))))))));exact dJ rfl
 rintro f_1 ⟨s12_1,s0_1,s2_1,s3_1⟩;refine K4 (C.condD s12_1 (λc12=>?_) (λc12=>?_))
 ·
  have hno:Cl.isOp o=false:=by simp only[Cl.isOp,decide_eq_false_iff_not];omega
  refine C.sr λK5=>O.j (K5 (C.ret (Outs.one rfl rfl ?_)))
  exact ⟨by rw[Cl.word_no hno];rfl,e1⟩
 have ho:Cl.isOp o=true:=dT (by omega);refine C.skip (K3 (C.sr λK6=>O.mv (O.mv (O.idxO U37 Z9 s3_1 s0_1 (by omega) (O.loadO isAgg9 rfl h4 (Cl.word_cells ho) (O.j (K6 (C.ret (Outs.one rfl rfl ?_)))))))));exact ⟨rfl,e1⟩
theorem needs_spec (o:Int)(w:World):
 Ret prog 43 #[.int .i64 (o)] w (λv w'=>v=.agg #[.bool (Cl.has o 107),.bool (Cl.has o 111),.bool (Cl.has o 105),.bool (Cl.has o 113),.bool (Cl.has o 100)]∧Le w w'):=by
 refine enT [.int .i64 (o)] 40 func43 rfl rfl (C.sr λK1=>O.alloc zeroValue84 (λb2 w1 hb2 hz2 e1=>?_));have z1:=e1.size;have h2:=hz2.own;have hl2:=h2.lt;refine K1 (C.sr λK2=>O.mv (O.eqlI rfl rfl (O.mv (O.cut 3 (λf f'=>f' 12=.bool (decide (o=1∨o=2))∧f' 0=f 0∧f' 2=f 2) ?_ ?_))))
 ·
  refine O.splitD (x:=.tmp 9) rfl (λc9=>?_) (λc9=>?_)
  ·
   refine O.no rfl (noB (isT rfl c9) rfl) (O.no rfl (noB (isT rfl c9) rfl) (O.pickT (isT rfl c9) (O.o (⟨⟨?_,rfl,rfl⟩,rfl⟩))));exact dJ rfl
  refine O.yes rfl (isF rfl c9) (O.mv (O.yes rfl (isF rfl c9) (O.eqlI rfl rfl (O.pickF (isF rfl c9) (O.o (⟨⟨?_,rfl,rfl⟩,rfl⟩))))));exact dJ rfl
 rintro f_1 ⟨s12_1,s0_1,s2_1⟩;refine O.mv (O.eqlI s0_1 rfl (O.j (O.j (K2 (C.sr λK3=>O.mv (O.eqlI s0_1 rfl (O.mv (O.eqlI s0_1 rfl (O.j (O.j (K3 (C.sr λK4=>O.mv (O.geqI s0_1 rfl (O.mv (O.cut 3 (λf f'=>f' 24=.bool (decide (o≥1∧o<=7))∧f' 0=f 0∧f' 2=f 2∧f' 3=f 3∧f' 4=f 4∧f' 5=f 5∧f' 6=f 6) ?_ ?_)))))))))))))))
 ·
  refine O.splitD (x:=.tmp 21) rfl (λc21=>?_) (λc21=>?_)
  ·
   refine O.yes rfl (isT rfl c21) (O.mv (O.yes rfl (isT rfl c21) (O.leqI s0_1 rfl (O.pickT (isT rfl c21) (O.o (⟨⟨?_,rfl,rfl,rfl,rfl,rfl,rfl⟩,rfl⟩))))));exact dJ rfl
  refine O.no rfl (noB (isF rfl c21) rfl) (O.no rfl (noB (isF rfl c21) rfl) (O.pickF (isF rfl c21) (O.o (⟨⟨?_,rfl,rfl,rfl,rfl,rfl,rfl⟩,rfl⟩))));exact dJ rfl
 rintro f_2 ⟨s24_2,s0_2,s2_2,s3_2,s4_2,s5_2,s6_2⟩;refine O.mv (O.mv (O.cut 2 (λf f'=>f' 28=.bool (decide (o=6∨o=7))∧f' 0=f 0∧f' 2=f 2∧f' 3=f 3∧f' 4=f 4∧f' 5=f 5∧f' 24=f 24) ?_ ?_))
 ·
  refine O.splitD (x:=.tmp 26) s5_2 (λc26=>?_) (λc26=>?_)
  ·
   refine O.no rfl (noB (isT s5_2 c26) rfl) (O.pickT (isT s5_2 c26) (O.o (⟨⟨?_,rfl,rfl,rfl,rfl,rfl,rfl⟩,rfl⟩)));exact dJ rfl
  refine O.yes rfl (isF s5_2 c26) (O.mv (O.pickF (isF s5_2 c26) (O.o (⟨⟨?_,rfl,rfl,rfl,rfl,rfl,rfl⟩,rfl⟩))));exact dJ s6_2
 rintro f_3 ⟨s28_3,s0_3,s2_3,s3_3,s4_3,s5_3,s24_3⟩;refine O.mv (O.mv (O.cut 2 (λf f'=>f' 32=.bool (decide ((o=1∨o=2)∨o=3))∧f' 0=f 0∧f' 2=f 2∧f' 3=f 3∧f' 5=f 5∧f' 24=f 24∧f' 28=f 28) ?_ ?_))
 ·
  refine O.splitD (x:=.tmp 30) (Eq.trans s3_3 (Eq.trans s3_2 s12_1)) (λc30=>?_) (λc30=>?_)
  ·
   refine O.no rfl (noB (isT (Eq.trans s3_3 (Eq.trans s3_2 s12_1)) c30) rfl) (O.pickT (isT (Eq.trans s3_3 (Eq.trans s3_2 s12_1)) c30) (O.o (⟨⟨?_,rfl,rfl,rfl,rfl,rfl,rfl⟩,rfl⟩)));exact dJ rfl
  refine O.yes rfl (isF (Eq.trans s3_3 (Eq.trans s3_2 s12_1)) c30) (O.mv (O.pickF (isF (Eq.trans s3_3 (Eq.trans s3_2 s12_1)) c30) (O.o (⟨⟨?_,rfl,rfl,rfl,rfl,rfl,rfl⟩,rfl⟩))));exact dJ (Eq.trans s4_3 s4_2)
 rintro f_4 ⟨s32_4,s0_4,s2_4,s3_4,s5_4,s24_4,s28_4⟩;refine O.mv (O.cut 2 (λf f'=>f' 35=.bool (decide (((o=1∨o=2)∨o=3)∨o=6))∧f' 0=f 0∧f' 2=f 2∧f' 3=f 3∧f' 24=f 24∧f' 28=f 28) ?_ ?_)
 ·
  refine O.splitD (x:=.tmp 33) s32_4 (λc33=>?_) (λc33=>?_)
  ·
   refine O.no rfl (noB (isT s32_4 c33) rfl) (O.pickT (isT s32_4 c33) (O.o (⟨⟨?_,rfl,rfl,rfl,rfl,rfl⟩,rfl⟩)));exact dJ rfl
  refine O.yes rfl (isF s32_4 c33) (O.mv (O.pickF (isF s32_4 c33) (O.o (⟨⟨?_,rfl,rfl,rfl,rfl,rfl⟩,rfl⟩))));exact dJ (Eq.trans s5_4 (Eq.trans s5_3 s5_2))
 rintro f_5 ⟨s35_5,s0_5,s2_5,s3_5,s24_5,s28_5⟩;refine O.mv (O.mv (O.eqlI (Eq.trans s0_5 (Eq.trans s0_4 (Eq.trans s0_3 (Eq.trans s0_2 s0_1)))) rfl (O.build (cells:=#[.bool (decide (o≥1∧o<=7)),.bool (decide (o=6∨o=7)),.bool (decide (((o=1∨o=2)∨o=3)∨o=6)),.bool (decide (o=1∨o=2)),.bool (decide (o=8))]) (pairE (Eq.trans s24_5 (Eq.trans s24_4 (Eq.trans s24_3 s24_2))) (pairE (Eq.trans s28_5 (Eq.trans s28_4 s28_3)) (pairE s35_5 (pairE (Eq.trans s3_5 (Eq.trans s3_4 (Eq.trans s3_3 (Eq.trans s3_2 s12_1)))) (pairE rfl rfl))))) (by kernel_rfl) ?_)));refine O.storeA (vs:=[.bool (decide (o≥1∧o<=7)),.bool (decide (o=6∨o=7)),.bool (decide (((o=1∨o=2)∨o=3)∨o=6)),.bool (decide (o=1∨o=2)),.bool (decide (o=8))]) Z84 rfl (Eq.trans s2_5 (Eq.trans s2_4 (Eq.trans s2_3 (Eq.trans s2_2 s2_1)))) rfl (by intro u hu;simp only[List.mem_cons,List.not_mem_nil,or_false] at hu;rcases hu with rfl|rfl|rfl|rfl|rfl<;>rfl) h2 (leB rfl) (λw2 hs2 e2 z2=>K4 (C.ret (Outs.cellA rfl isAgg84 Z84 (Eq.trans s2_5 (Eq.trans s2_4 (Eq.trans s2_3 (Eq.trans s2_2 s2_1)))) hs2 rfl ?_)));exact ⟨by rw[<-Cl.has_k,<-Cl.has_o,<-Cl.has_i,<-Cl.has_q,<-Cl.has_d];rfl,(Ext.nr e1 e2)⟩
def Bu (w:World)(B b:Nat)(xs:List UInt8):Prop:=Lib.IsBuilder 110 5 B b (Lib.byteCells xs) w∧B<=w.heap.size
theorem Bu.of {w:World}{B b:Nat}(h:Own0 w b 110 [.pointer none,.slice none 0 0])(hB:B<=b):Bu w B b []:=
 ⟨.inl ⟨hB,_,h,World.ownsRow_nil _ _ _ _,by simp[Value.ownBlock]⟩,by have:=h.lt;omega⟩
theorem Bu.L {w w':World}{B b:Nat}{xs:List UInt8}(h:Bu w B b xs)(e:Le w w'):Bu w' B b xs:=by
 obtain ⟨h,hB⟩:=h;have k:∀p,Lib.BuilderAt 110 5 B b p (Lib.byteCells xs) w->Lib.BuilderAt 110 5 B b p (Lib.byteCells xs) w':=by
  rintro p ⟨h1,v,h2,h3,h4⟩;refine ⟨h1,v,(e.block b (lt_of_some h2) not_false).trans h2,⟨h3.1,?_⟩,h4⟩;rcases h3.2 with hn|⟨g,cap,cur,rfl,hb,hg,rest⟩
  ·exact .inl hn
  ·exact .inr ⟨g,cap,cur,rfl,hb,(e.block g (lt_of_some hg) not_false).trans hg,rest⟩
 exact ⟨h.imp (k _) (k _),Nat.le_trans hB e.size⟩
theorem ext_below {B:Nat}{w w':World}(h:Below B w w'):Ext (λk=>B<=k) w w':=⟨h.os,h.tape,h.output,h.size,λk _ hk=>h.block k (by omega)⟩
theorem wbyte_spec (B b:Nat)(xs:List UInt8)(c:UInt8)(w:World)(h:Bu w B b xs)(hx:xs.length<=140737488355327):
 Ret prog 91 #[.pointer (some ⟨b,0,none⟩),.int .u8 (c.toNat:Int)] w (λv w'=>v=.nilIface∧Bu w' B b (xs++[c])∧Ext (λk=>B<=k) w w'):=by
 refine Ret.of (Tryz.Builder_WriteByte B b _ (c.toNat:Int) w h.1 (by simp[Lib.byteCells];omega) h.2) ?_;rintro e w' ⟨rfl,h1,h2⟩;refine ⟨_,rfl,rfl,⟨.inr ?_,Nat.le_trans h.2 h2.size⟩,ext_below h2⟩;have e9:Lib.byteCells (xs++[c])=Lib.byteCells xs++[.int .u8 (c.toNat:Int)]:=by simp[Lib.byteCells]
 rw[e9];exact h1
theorem bwstr_spec (B b:Nat)(xs ys:List UInt8)(w:World)(h:Bu w B b xs)(hx:xs.length+ys.length<=140737488355328):
 Ret prog 66 #[.pointer (some ⟨b,0,none⟩),str ys] w (λv w'=>v=.tuple #[.int .i64 (ys.length:Int),.nilIface]∧Bu w' B b (xs++ys)∧Ext (λk=>B<=k) w w'):=by
 refine Ret.of (Tryz.Builder_WriteString B b _ ⟨ys.toArray⟩ w h.1 (by simp[Lib.byteCells,ByteArray.size];omega) h.2) ?_;rintro e w' ⟨rfl,h1,h2⟩;refine ⟨_,rfl,?_,⟨.inr ?_,Nat.le_trans h.2 h2.size⟩,ext_below h2⟩
 ·simp [ByteArray.size]
 have e9:Lib.byteCells (xs++ys)=Lib.byteCells xs++Lib.strCells ⟨ys.toArray⟩:=by simp[Lib.byteCells,Lib.strCells]
 rw[e9];exact h1
theorem bstr_spec (B b:Nat)(xs:List UInt8)(w:World)(h:Bu w B b xs):
 Ret prog 67 #[.pointer (some ⟨b,0,none⟩)] w (λv w'=>v=str xs∧Ext (λk=>B<=k) w w'):=by
 refine Ret.of (Tryz.Builder_String_any B b xs w h.1 h.2) ?_;rintro e w' ⟨rfl,h2⟩;exact ⟨_,rfl,rfl,ext_below h2⟩
theorem itoa_spec (n:Int)(w:World)(h0:Cl.InI64 n)(gw:Gw w):Ret prog 60 #[.int .i64 n] w (λv w'=>v=str (Lib.itoa n)∧Le w w'):=by
 refine Ret.of (Tryz.strconv_Itoa n h0.1 h0.2 w gw.t) ?_;rintro e w' ⟨rfl,k,os,rfl⟩;exact ⟨_,rfl,rfl,⟨rfl,rfl,rfl,by simp[Go.Sort.grow],λi hi _=>by show (w.heap++os)[i]? =_;rw[Array.getElem?_append_left hi]⟩⟩
theorem bytesWorld_le (w:World)(e:TypeId)(s:ByteArray):Le w (Lib.bytesWorld w e s):=by
 refine ⟨rfl,rfl,rfl,?_,λk hk _=>?_⟩
 ·simp [Lib.bytesWorld,World.freeze]
 ·unfold Lib.bytesWorld World.freeze
  rw[if_neg (by decide)];show ((w.heap.push _).modify w.heap.size _)[k]? =_;rw[Array.getElem?_modify,if_neg (by omega),Array.getElem?_push,if_neg (by omega)]
theorem atoi_spec (l:List UInt8)(w:World)(hl:l.length<=281474976710656)(gw:Gw w):
 Ret prog 71 #[str l] w (λv w'=>∃(r:Int) (y:Value),v=.tuple #[.int .i64 r,y]∧(∀n,Lib.atoiAll l=.ok n->r=n)∧Cl.InI64 r∧Le w w'):=by
 have hsz:(ByteArray.mk l.toArray).size<=281474976710656:=by simpa[ByteArray.size] using hl
 cases hq:Lib.atoiAll l with
 |ok n=>
  refine Ret.of (Tryz.strconv_Atoi_ok ⟨l.toArray⟩ (by omega) n hq w) ?_;rintro e w' ⟨rfl,rfl|⟨t,rfl⟩⟩
  ·exact ⟨_,rfl,_,_,rfl,λm hm=>by cases hm;rfl,Lib.atoiAll_bounds hq,Le.refl _⟩
  ·exact ⟨_,rfl,_,_,rfl,λm hm=>by cases hm;rfl,Lib.atoiAll_bounds hq,bytesWorld_le w _ _⟩
 | «syntax» =>
   obtain ⟨es,hes,g1⟩:=gw.s;refine Ret.of (Tryz.strconv_Atoi_syntax ⟨l.toArray⟩ hsz hq es w hes (.inr g1)) ?_;rintro e w' ⟨N,rfl,_,_,hb⟩;exact ⟨_,rfl,_,_,rfl,λm hm=>by (cases hm),(by unfold Cl.InI64;omega:Cl.InI64 0),Le.of_below hb (Nat.le_refl _)⟩
 |range=>
  obtain ⟨er,her,g2⟩:=gw.r;refine Ret.of (Tryz.strconv_Atoi_range ⟨l.toArray⟩ hsz hq er w her (.inr g2)) ?_;rintro e w' ⟨N,rfl,_,_,hb⟩;exact ⟨_,rfl,_,_,rfl,λm hm=>by (cases hm),Cl.sat_in _,Le.of_below hb (Nat.le_refl _)⟩
theorem join_spec (v:Value)(l:List (List UInt8))(F:Nat->Prop)(w:World)(h:Sl strF.enc w F v l)(hne:l≠[])(hN:l.length<=1000000)(hlen:(Vc.jn l).length<=140737488355328):
 Ret prog 63 #[v,str [32]] w (λr w'=>r=str (Vc.jn l)∧Le w w'):=by
 rcases h.flat with ⟨a,rfl,rfl⟩|⟨b,off,cap,hF,rfl,hc,hlt,hcell⟩
 ·exact absurd rfl hne
 ·have e1:(l.map (λs=>(⟨s.toArray⟩:ByteArray))).map (·.data.toList)=l:=by
   rw[List.map_map]
   conv=>rhs;rw[<-List.map_id l]
   apply List.map_congr_left
   intro a _
   rfl
  have hjj:=Tryz.strings_Join b off cap (l.map (λs=>⟨s.toArray⟩)) ⟨#[32]⟩ w (λj x hx=>by
   rw[List.getElem?_map] at hx;obtain ⟨s,hs,rfl⟩:=Option.map_eq_some_iff.1 hx;refine hcell j (str s) ?_;have e2:l.flatMap strF.e=l.map str:=by
    show l.flatMap (λx=>[str x])=l.map str
    clear hx hs h hcell hc hne hN hlen e1 hF
    induction l with
    |nil=>rfl
    |cons a l ih=>rw[List.flatMap_cons,ih];rfl
   rw[e2,List.getElem?_map,hs]
   rfl) hlt (by rw[List.length_map];omega) (by rw[List.length_map];omega) (by rw[e1];exact hlen)
  rw[e1,List.length_map] at hjj;refine Ret.of hjj ?_;rintro e w' ⟨rfl,hb⟩;exact ⟨_,rfl,rfl,Le.of_below hb (Nat.le_refl _)⟩
theorem has1_spec (l:List UInt8)(c:UInt8)(w:World):Ret prog 42 #[str l,str [c]] w (λv w'=>v=.bool (decide (c∈l))∧w'=w):=by
 refine Ret.of (Tryz.strings_Contains_one ⟨l.toArray⟩ c w) ?_;rintro e w' ⟨rfl,rfl⟩;exact ⟨_,rfl,cB (decide_eq_decide.2 Cl.mem_ix),rfl⟩
theorem ixb_spec (l:List UInt8)(c:UInt8)(w:World):Ret prog 99 #[str l,.int .u8 (c.toNat:Int)] w (λv w'=>v=.int .i64 (Lib.indexByte l c)∧w'=w):=by
 refine Ret.of (Tryz.strings_IndexByte ⟨l.toArray⟩ (c.toNat:Int) w) ?_;rintro e w' ⟨rfl,rfl⟩;exact ⟨_,rfl,by simp,rfl⟩
theorem cut_spec (l:List UInt8)(w:World)(hl:l.length<=4000000)(gw:Gw w):Ret prog 68 #[str l,str [32]] w (λv w'=>(∃b,v=.tuple #[str (Cl.ct l).1,str (Cl.ct l).2,.bool b])∧Le w w'):=by
 obtain ⟨m,hm⟩:=gw.m;refine Ret.of (Tryz.strings_Cut ⟨l.toArray⟩ ⟨#[32]⟩ m w (by simp[ByteArray.size];omega) hm) ?_;rintro e w' ⟨rfl,n,rfl⟩;obtain ⟨h1,h2⟩:=Cl.cut_ct l;exact ⟨_,rfl,⟨_,by rw[h1,h2];rfl⟩,Le.drewN w n⟩
theorem trim_spec (l:List UInt8)(w:World)(hl:l.length<=4000000000):Ret prog 73 #[str l,str [10]] w (λv w'=>v=str (Lib.trimSuffix l [10])∧w'=w):=by
 refine Ret.of (Tryz.strings_TrimSuffix ⟨l.toArray⟩ ⟨#[10]⟩ w (by simp[ByteArray.size];omega)) ?_;rintro e w' ⟨rfl,rfl⟩;exact ⟨_,rfl,rfl,rfl⟩
theorem inf81:∃ie,prog.info? 81=some ie∧ie.size=3∧ie.bytes=24∧ie.zero=some (.agg #[.string ⟨#[]⟩,.bool false,.bool false]):=by
 have h:(prog.info? 81).isSome=true:=by kernel_rfl
 exact ⟨(prog.info? 81).get h,(Option.some_get h).symm,by kernel_rfl,by kernel_rfl,by kernel_rfl⟩
theorem valid_spec (c:Cl.Call)(vd:Value)(F:Nat->Prop)(w:World)(hd:Sl byteE w F vd c.data)(hs:Cl.Short c)(gw:Gw w):
 Ret prog 13 #[.agg #[.int .i64 c.op,str c.key,str c.other,str c.item,.int .i64 c.qty,vd]] w (λv w'=>v=.bool (Cl.valid c)∧Le w w'):=by
 obtain ⟨hs1,hs2,hs3,hs4⟩:=hs;have hdo:=hd.oneC;obtain ⟨ie81,ti81,ts81,tb81,tz81⟩:=inf81;refine enT [.agg #[.int .i64 c.op,str c.key,str c.other,str c.item,.int .i64 c.qty,vd]] 79 func13 rfl rfl (C.sr λK1=>O.box (v:=.agg #[.int .i64 c.op,str c.key,str c.other,str c.item,.int .i64 c.qty,vd]) rfl (λb1 w1 hb1 hz1 e1=>?_));have z1:=e1.size;have h1:=hz1.own;have hl1:=h1.lt;refine O.j (K1 (C.sr λK2=>O.fa U25 rfl Z22 rfl (O.loadO isAgg22 rfl h1 rfl (O.call call40 (args1 rfl) (find_spec _ _ (gw.L e1)) ?_))));rintro v_11 w2 ⟨rfl,e2⟩;have z2:=e2.size;refine O.mv (O.extract rfl rfl (O.extract rfl rfl (O.alloc zeroValue72 (λb3 w3 hb3 hz3 e3=>?_))));have z3:=e3.size;have h3:=hz3.own;have hl3:=h3.lt;refine O.storeA (vs:=[str (Cl.word c.op),str (Cl.parts c.op)]) Z72 rfl rfl rfl (by intro u hu;simp only[List.mem_cons,List.not_mem_nil,or_false] at hu;rcases hu with rfl|rfl<;>rfl) h3 (leB rfl) (λw4 hs4 e4 z4=>O.j (K2 (C.sq λK3=>C.sr λK4=>O.mv (O.not rfl (O.mv (O.split (x:=.tmp 16) rfl (λc16=>?_) (λc16=>?_)))))))
 ·
  refine O.no rfl (noB (isT' rfl c16) rfl) (O.no rfl (noB (isT' rfl c16) rfl) (O.no rfl (noB (isT' rfl c16) rfl) (O.no rfl (noB (isT' rfl c16) rfl) (O.pickT (isT' rfl c16) (K4 (C.condT rfl (C.sr λK5=>O.j (K5 (C.ret (Outs.one rfl rfl ?_))))))))));exact ⟨cB (Cl.valid_nop (by simpa using c16)),(Ext.nr (Ext.T (Ext.T e1 e2) e3) e4)⟩
 refine O.yes rfl (isF' rfl c16) (O.fa U25 rfl Z23 rfl (O.yes rfl (isF' rfl c16) ?_));have t0:=(h1.L e2).L e3;refine O.loadO isAgg23 rfl (t0.kO e4) rfl (O.yes rfl (isF' rfl c16) ?_);have t1:=Ext.T (Ext.T e1 e2) e3;refine O.len U23 rfl (hd.L (Ext.nr t1 e4)) (O.yes rfl (isF' rfl c16) (O.gtrI rfl rfl (O.pickF (isF' rfl c16) (K4 (C.condD rfl (λc21=>?_) (λc21=>?_))))))
 ·
  refine C.sr λK6=>O.j (K6 (C.ret (Outs.one rfl rfl ?_)))
  exact ⟨cB (Cl.valid_len c21),(Ext.nr t1 e4)⟩
 refine C.skip (K3 (C.sq λK7=>C.sd λK8 w5 e5 z5=>D.t 0 rfl leR (λ_ _ _ hN=>O.fa U25 rfl Z9 rfl (O.o hN)) (D.t 1 rfl leR (λ_ hw_ _ hN=>O.loadO isAgg9 rfl (((t0.kO e4).L e5).L hw_) rfl (O.o hN)) (D.t 3 rfl leR (λ_ _ _ hN=>O.fa U25 rfl Z9 rfl (O.o hN)) (D.t 4 rfl leR (λ_ hw_ _ hN=>O.loadO isAgg9 rfl (((t0.kO e4).L e5).L hw_) rfl (O.o hN)) (D.t 5 rfl leR (λ_ _ _ hN=>O.eqlS rfl rfl (O.o hN)) (D.t 7 rfl leR (λ_ _ _ hN=>O.fa U25 rfl Z9 rfl (O.o hN)) ?_)))))));refine D.t 8 rfl leR (λ_ hw_ _ hN=>O.loadO isAgg9 rfl (((t0.kO e4).L e5).L hw_) rfl (O.o hN)) (D.t 10 rfl leR (λ_ _ _ hN=>O.fa U25 rfl Z9 rfl (O.o hN)) (D.t 11 rfl leR (λ_ hw_ _ hN=>O.loadO isAgg9 rfl (((t0.kO e4).L e5).L hw_) rfl (O.o hN)) (D.t 12 rfl leR (λ_ _ _ hN=>O.eqlS rfl rfl (O.o hN)) (D.t 14 rfl leR (λ_ _ _ hN=>O.fa U25 rfl Z9 rfl (O.o hN)) (D.t 15 rfl leR (λ_ hw_ _ hN=>O.loadO isAgg9 rfl (((t0.kO e4).L e5).L hw_) rfl (O.o hN)) ?_)))));refine D.t 17 rfl leR (λ_ _ _ hN=>O.fa U25 rfl Z9 rfl (O.o hN)) (D.t 18 rfl leR (λ_ hw_ _ hN=>O.loadO isAgg9 rfl (((t0.kO e4).L e5).L hw_) rfl (O.o hN)) (D.t 19 rfl leR (λ_ _ _ hN=>O.eqlS rfl rfl (O.o hN)) (D.t 21 rfl leR (λ_ _ _ hN=>O.fa U25 rfl Z3 rfl (O.o hN)) (D.t 22 rfl leR (λ_ hw_ _ hN=>O.loadO isAgg3 rfl (((t0.kO e4).L e5).L hw_) rfl (O.o hN)) (D.t 23 rfl leR (λ_ _ _ hN=>O.eqlI rfl rfl (O.o hN)) ?_)))));refine D.t 24 rfl leR (λ_ _ _ hN=>O.build (cells:=#[str [113],.bool true,.bool (decide (c.qty=0))]) rfl (by kernel_rfl) (O.o hN)) (D.t 25 rfl leR (λ_ _ _ hN=>O.fa U25 rfl Z23 rfl (O.o hN)) (D.t 26 rfl leR (λ_ hw_ _ hN=>O.loadO isAgg23 rfl (((t0.kO e4).L e5).L hw_) rfl (O.o hN)) ?_));have t2:=Ext.T (Ext.nr t1 e4) e5;refine D.tk 27 rfl rfl rfl rfl leR len_form (λ_ hw_ _ hN=>O.len U23 rfl ((hd.L t2).L hw_) (O.o hN)) (D.t 28 rfl leR (λ_ _ _ hN=>O.eqlI rfl rfl (O.o hN)) (D.t 29 rfl leR (λ_ _ _ hN=>O.build (cells:=#[str [100],.bool true,.bool (decide ((c.data.length:Int)=0))]) rfl (by kernel_rfl) (O.o hN)) (D.mv 32 rfl leR (D.on 2 rfl rfl (O.call call41 (args2 rfl rfl) (between_spec c.key 33#8 _ hs1) ?_)))));rintro v_24 w6 ⟨rfl,e6⟩;have z6:=e6.size;refine O.o ⟨e6,D.t 6 rfl e6 (λ_ _ _ hN=>O.build (cells:=#[str [107],.bool (Cl.between 33 c.key),.bool (decide (c.key=[]))]) rfl (by kernel_rfl) (O.o hN)) (D.on 9 rfl rfl (O.call call41 (args2 rfl rfl) (between_spec c.other 33#8 _ hs2) ?_))⟩;rintro v_31 w7 ⟨rfl,e7⟩;have z7:=e7.size;refine O.o ⟨(Ext.T e6 e7),D.t 13 rfl (Ext.T e6 e7) (λ_ _ _ hN=>O.build (cells:=#[str [111],.bool (Cl.between 33 c.other),.bool (decide (c.other=[]))]) rfl (by kernel_rfl) (O.o hN)) (D.on 16 rfl rfl (O.call call41 (args2 rfl rfl) (between_spec c.item 32#8 _ hs3) ?_))⟩;rintro v_38 w8 ⟨rfl,e8⟩;have z8:=e8.size;have t3:=Ext.T (Ext.T e6 e7) e8;refine O.o ⟨t3,D.t 20 rfl t3 (λ_ _ _ hN=>O.build (cells:=#[str [105],.bool (Cl.between 32 c.item),.bool (decide (c.item=[]))]) rfl (by kernel_rfl) (O.o hN)) (D.on 30 rfl rfl (O.litG (G:=chkF) [((107:UInt8),Cl.between 33 c.key,decide (c.key=[])),(111,Cl.between 33 c.other,decide (c.other=[])),(105,Cl.between 32 c.item,decide (c.item=[])),(113,true,decide (c.qty=0)),(100,true,decide ((c.data.length:Int)=0))] underlying82 ti81 ts81 tz81 rfl (by decide) (by decide) rfl (λb52 w9 hb52 hz52 e9=>?_)))⟩;have z9:=e9.size;have h52:=hz52.own;have hq52:=Sl.litG (n:=5) h52 rfl (by unfold maxLen;omega);refine O.o ⟨(Ext.T t3 e9),?_⟩;rw[Cl.checks_eq] at hq52;refine D.on 31 rfl rfl (O.len underlying82 rfl hq52 (O.o ⟨(Ext.T t3 e9),K8 (C.bl λK9=>C.loop0 (σ:=Nat) (λf0 w0 k f w=>f 54=.int .i64 ((k:Int))∧f 3=f0 3∧f 52=f0 52∧f 53=f0 53∧Le w0 w∧k<=5∧∀y∈(Cl.checks c).take k,Cl.part c y.1=true) (λk=>5-k) 0 ?_ ?_)⟩))
 ·
  refine ⟨rfl,rfl,rfl,rfl,Le.refl _,?_⟩;exact ⟨by omega,λy h=>by simp at h⟩
 rintro k f_1 w10 ⟨s54_1,s3_1,s52_1,s53_1,e_1,⟨hk,hI⟩⟩;have z_1:=e_1.size;refine C.sr λK10=>O.lssI s54_1 s53_1 (K10 (C.sq λK11=>C.condD rfl (λc55=>?_) (λc55=>?_)))
 ·
  have hk2:k<5:=by have q:(k:Int)<((5:Nat):Int):=c55;omega
  have sp1_:∃x:Cl.ChkT,x=(Cl.checks c)[k]'hk2:=⟨_,rfl⟩
  obtain ⟨x,hx⟩:=sp1_;refine C.skip (K11 (C.sq λK12=>C.bl λK13=>C.sr λK14=>O.idx underlying82 sizeOf81 rfl s52_1 (hq52.L e_1) s54_1 (by omega) (λa56 h56=>O.loadG (G:=chkF) isAgg81 sizeOf81 rfl h56 (O.cast (v':=.agg #[str [x.1],.bool x.2.1,.bool x.2.2]) (by rw[hx];rfl) (O.alloc zeroValue81 (λb6 w11 hb6 hz6 e11=>?_))))));have z11:=e11.size;have h6:=hz6.own;have hl6:=h6.lt;refine O.storeA (vs:=[str [x.1],.bool x.2.1,.bool x.2.2]) sizeOf81 rfl rfl rfl (by intro u hu;simp only[List.mem_cons,List.not_mem_nil,or_false] at hu;rcases hu with rfl|rfl|rfl<;>rfl) h6 (leB rfl) (λw12 hs12 e12 z12=>K14 (C.sr λK15=>O.fa U72 rfl Z9 s3_1 (O.loadO isAgg9 rfl ((((((((hs4.L e5).L e6).L e7).L e8).L e9).L e_1).L e11).kO e12) rfl (O.fa U81 rfl Z9 rfl (O.loadO isAgg9 rfl hs12 rfl (O.call call42 (args2 rfl rfl) (has1_spec (Cl.parts c.op) x.1 _) ?_))))));rintro v_62 w13 ⟨rfl,hw_⟩;replace hw_:=hw_.symm;subst hw_;refine O.j (K15 (C.sr λK16=>O.mv (O.mv (O.split (x:=.tmp 64) rfl (λc64=>?_) (λc64=>?_)))))
  ·
   refine O.yes rfl (isT' rfl c64) (O.fa U81 rfl Z4 rfl (O.yes rfl (isT' rfl c64) (O.loadO isAgg4 rfl hs12 rfl (O.yes rfl (isT' rfl c64) (O.not rfl (O.pickT (isT' rfl c64) (O.mv (O.split (x:=.tmp 69) rfl (λc69=>?_) (λc69=>?_)))))))))
   ·
    refine O.no rfl (noB (isT' rfl c69) rfl) (O.no rfl (noB (isT' rfl c69) rfl) (O.no rfl (noB (isT' rfl c69) rfl) (O.no rfl (noU rfl) (O.no rfl (noU rfl) (O.no rfl (noU rfl) (O.no rfl (noB (isT' rfl c69) rfl) (O.pickT (isT' rfl c69) (K16 (C.condT rfl (C.sr λK17=>O.j (K17 (C.ret (Outs.one rfl rfl ?_)))))))))))));exact ⟨cB (Cl.checks_no (Cl.chk_mem hx) (by rw[Cl.chk_a hx c64];simpa using c69)),(Ext.nr (Ext.T (Ext.T (Ext.T (Ext.T (Ext.T (Ext.T t2 e6) e7) e8) e9) e_1) e11) e12)⟩
   refine O.yes rfl (isF' rfl c69) (O.mv (O.yes rfl (isF' rfl c69) (O.not rfl (O.yes rfl (isF' rfl c69) (O.mv (O.split (x:=.tmp 72) rfl (λc72=>?_) (λc72=>?_)))))))
   ·
    refine O.yes rfl (isT' rfl c72) (O.fa U81 rfl Z4 rfl (O.yes rfl (isT' rfl c72) (O.loadO isAgg4 rfl hs12 rfl (O.yes rfl (isT' rfl c72) (O.not rfl (O.yes rfl (isF' rfl c69) (O.pickT (isT' rfl c72) (O.pickF (isF' rfl c69) (K16 (C.cond rfl (λc77=>?_) (λc77=>?_)))))))))))
    ·
     refine C.sr λK18=>O.j (K18 (C.ret (Outs.one rfl rfl ?_)))
     exact ⟨cB (Cl.checks_no (Cl.chk_mem hx) (by rw[Cl.chk_b hx (by simpa using c72)];simpa using c77)),(Ext.nr (Ext.T (Ext.T (Ext.T (Ext.T (Ext.T (Ext.T t2 e6) e7) e8) e9) e_1) e11) e12)⟩
    refine C.skip (K13 (K12 (C.region (O.ad s54_1 rfl (O.mv (O.o (⟨k+1,⟨rfl,s3_1,s52_1,s53_1,(Ext.nr (Ext.T e_1 e11) e12),?_⟩,by first|omega|(simp only[];omega)⟩)))))));exact ⟨by omega,Cl.chk_next hx hI (by first|(rw[Cl.chk_a hx c64];simpa using c69)|(rw[Cl.chk_b hx (by simpa using c72)];simpa using c77)|(rw[c64] at c72;cases c72))⟩
   refine O.no rfl (noB (isF' rfl c72) rfl) (O.no rfl (noB (isF' rfl c72) rfl) (O.no rfl (noB (isF' rfl c72) rfl) (O.yes rfl (isF' rfl c69) (O.pickF (isF' rfl c72) (O.pickF (isF' rfl c69) (K16 (C.condF rfl (C.skip (K13 (K12 (C.region (O.ad s54_1 rfl (O.mv (O.o (⟨k+1,⟨rfl,s3_1,s52_1,s53_1,(Ext.nr (Ext.T e_1 e11) e12),?_⟩,by first|omega|(simp only[];omega)⟩)))))))))))))));exact ⟨by omega,Cl.chk_next hx hI (by first|(rw[Cl.chk_a hx c64];simpa using c69)|(rw[Cl.chk_b hx (by simpa using c72)];simpa using c77)|(rw[c64] at c72;cases c72))⟩
  refine O.no rfl (noB (isF' rfl c64) rfl) (O.no rfl (noB (isF' rfl c64) rfl) (O.no rfl (noB (isF' rfl c64) rfl) (O.pickF (isF' rfl c64) (O.mv (O.yes rfl rfl (O.mv (O.yes rfl rfl (O.not rfl (O.yes rfl rfl (O.mv (O.split (x:=.tmp 72) rfl (λc72=>?_) (λc72=>?_))))))))))))
  ·
   refine O.yes rfl (isT' rfl c72) (O.fa U81 rfl Z4 rfl (O.yes rfl (isT' rfl c72) (O.loadO isAgg4 rfl hs12 rfl (O.yes rfl (isT' rfl c72) (O.not rfl (O.yes rfl rfl (O.pickT (isT' rfl c72) (O.pickF rfl (K16 (C.cond rfl (λc77=>?_) (λc77=>?_)))))))))))
   ·
    refine C.sr λK19=>O.j (K19 (C.ret (Outs.one rfl rfl ?_)))
    exact ⟨cB (Cl.checks_no (Cl.chk_mem hx) (by rw[Cl.chk_b hx (by simpa using c72)];simpa using c77)),(Ext.nr (Ext.T (Ext.T (Ext.T (Ext.T (Ext.T (Ext.T t2 e6) e7) e8) e9) e_1) e11) e12)⟩
   refine C.skip (K13 (K12 (C.region (O.ad s54_1 rfl (O.mv (O.o (⟨k+1,⟨rfl,s3_1,s52_1,s53_1,(Ext.nr (Ext.T e_1 e11) e12),?_⟩,by first|omega|(simp only[];omega)⟩)))))));exact ⟨by omega,Cl.chk_next hx hI (by first|(rw[Cl.chk_a hx c64];simpa using c69)|(rw[Cl.chk_b hx (by simpa using c72)];simpa using c77)|(rw[c64] at c72;cases c72))⟩
  refine O.no rfl (noB (isF' rfl c72) rfl) (O.no rfl (noB (isF' rfl c72) rfl) (O.no rfl (noB (isF' rfl c72) rfl) (O.yes rfl rfl (O.pickF (isF' rfl c72) (O.pickF rfl (K16 (C.condF rfl (C.skip (K13 (K12 (C.region (O.ad s54_1 rfl (O.mv (O.o (⟨k+1,⟨rfl,s3_1,s52_1,s53_1,(Ext.nr (Ext.T e_1 e11) e12),?_⟩,by first|omega|(simp only[];omega)⟩)))))))))))))));exact ⟨by omega,Cl.chk_next hx hI (by first|(rw[Cl.chk_a hx c64];simpa using c69)|(rw[Cl.chk_b hx (by simpa using c72)];simpa using c77)|(rw[c64] at c72;cases c72))⟩
 refine C.exit (K9 (K7 (C.sr λK20=>O.j (K20 (C.ret (Outs.one rfl rfl ?_))))));exact ⟨cB (Cl.checks_yes (by simpa using c16) c21 (by rw[List.take_of_length_le (by show 5<=k;have q:¬(k:Int)<((5:Nat):Int):=c55;omega)] at hI;exact hI)),(Ext.T (Ext.T (Ext.T (Ext.T (Ext.T t2 e6) e7) e8) e9) e_1)⟩
theorem rvalid_spec (c:Cl.Call)(vd:Value)(F:Nat->Prop)(w:World)(hd:Sl byteE w F vd c.data)(hs:Cl.Short c):
 Ret prog 14 #[.agg #[.int .i64 c.op,str c.key,str c.other,str c.item,.int .i64 c.qty,vd]] w (λv w'=>v=.bool (Cl.valid c)∧Le w w'):=by
 obtain ⟨hs1,hs2,hs3,hs4⟩:=hs;have hdo:=hd.oneC;refine enT [.agg #[.int .i64 c.op,str c.key,str c.other,str c.item,.int .i64 c.qty,vd]] 85 func14 rfl rfl (C.sr λK1=>O.box (v:=.agg #[.int .i64 c.op,str c.key,str c.other,str c.item,.int .i64 c.qty,vd]) rfl (λb1 w1 hb1 hz1 e1=>?_));have z1:=e1.size;have h1:=hz1.own;have hl1:=h1.lt;refine O.j (K1 (C.sr λK2=>O.fa U25 rfl Z22 rfl (O.loadO isAgg22 rfl h1 rfl (O.call call43 (args1 rfl) (needs_spec _ _) ?_))));rintro v_6 w2 ⟨rfl,e2⟩;have z2:=e2.size;refine O.alloc zeroValue84 (λb3 w3 hb3 hz3 e3=>?_);have z3:=e3.size;have h3:=hz3.own;have hl3:=h3.lt;refine O.storeA (vs:=[.bool (Cl.has c.op 107),.bool (Cl.has c.op 111),.bool (Cl.has c.op 105),.bool (Cl.has c.op 113),.bool (Cl.has c.op 100)]) Z84 rfl rfl rfl (by intro u hu;simp only[List.mem_cons,List.not_mem_nil,or_false] at hu;rcases hu with rfl|rfl|rfl|rfl|rfl<;>rfl) h3 (leB rfl) (λw4 hs4 e4 z4=>K2 (C.sq λK3=>C.sd λK4 w5 e5 z5=>D.t 0 rfl leR (λ_ _ _ hN=>O.fa U25 rfl Z22 rfl (O.o hN)) ?_));have t0:=(h1.L e2).L e3;refine D.t 1 rfl leR (λ_ hw_ _ hN=>O.loadO isAgg22 rfl (((t0.kO e4).L e5).L hw_) rfl (O.o hN)) (D.on 2 rfl rfl (O.call call44 (args1 rfl) (rword_spec _ _) ?_));rintro v_9 w6 ⟨rfl,e6⟩;have z6:=e6.size;refine O.o ⟨e6,D.t 3 rfl e6 (λ_ _ _ hN=>O.eqlS rfl rfl (O.o hN)) (D.mv 4 rfl e6 (D.splitD (x:=.tmp 11) rfl (λc11=>?_) (λc11=>?_)))⟩
 ·
  refine D.tn 5 rfl rfl e6 rfl (noB (isT rfl c11) rfl) (D.tn 6 rfl rfl e6 rfl (noB (isT rfl c11) rfl) (D.tn 7 rfl rfl e6 rfl (noB (isT rfl c11) rfl) (D.tn 8 rfl rfl e6 rfl (noB (isT rfl c11) rfl) (D.tn 9 rfl rfl e6 rfl (noB (isT rfl c11) rfl) (D.tn 10 rfl rfl e6 rfl (noB (isT rfl c11) rfl) (D.tk 11 rfl rfl rfl rfl e6 pick_form (λ_ hw_ _ hN=>O.pickT (isT rfl c11) (O.o hN)) (D.mv 12 rfl e6 (D.tn 13 rfl rfl e6 rfl (noB rfl rfl) (D.tn 14 rfl rfl e6 rfl (noB rfl rfl) (D.tn 15 rfl rfl e6 rfl (noB rfl rfl) (D.tn 16 rfl rfl e6 rfl (noB rfl rfl) (D.tn 17 rfl rfl e6 rfl (noB rfl rfl) (D.tn 18 rfl rfl e6 rfl (noB rfl rfl) ?_)))))))))))));refine D.tk 19 rfl rfl rfl rfl e6 pick_form (λ_ hw_ _ hN=>O.pickT rfl (O.o hN)) (D.mv 20 rfl e6 (D.tn 21 rfl rfl e6 rfl (noB rfl rfl) (D.tn 22 rfl rfl e6 rfl (noB rfl rfl) (D.tn 23 rfl rfl e6 rfl (noB rfl rfl) (D.tn 24 rfl rfl e6 rfl (noB rfl rfl) (D.tn 25 rfl rfl e6 rfl (noB rfl rfl) (D.tn 26 rfl rfl e6 rfl (noB rfl rfl) (D.tk 27 rfl rfl rfl rfl e6 pick_form (λ_ hw_ _ hN=>O.pickT rfl (O.o hN)) (D.mv 28 rfl e6 (D.tn 29 rfl rfl e6 rfl (noB rfl rfl) (D.tn 30 rfl rfl e6 rfl (noB rfl rfl) (D.tn 31 rfl rfl e6 rfl (noB rfl rfl) (D.tn 32 rfl rfl e6 rfl (noB rfl rfl) (D.tk 33 rfl rfl rfl rfl e6 pick_form (λ_ hw_ _ hN=>O.pickT rfl (O.o hN)) (K4 ?_)))))))))))))));refine C.condT rfl (C.sr λK5=>O.j (K5 (C.ret (Outs.one rfl rfl ?_))));exact ⟨cB (Cl.valid_not (.inl (.inl (.inl (.inl c11))))),(Ext.T (Ext.T (Ext.nr (Ext.T (Ext.T e1 e2) e3) e4) e5) e6)⟩
 refine D.ty 5 rfl rfl rfl rfl (isF rfl c11) e6 ⟨_,rfl⟩ (λ_ hw_ _ hN=>O.idxA (i:=0) U84 Z4 rfl rfl (by omega) (O.o hN)) (D.ty 6 rfl rfl rfl rfl (isF rfl c11) e6 ⟨_,rfl⟩ (λ_ hw_ _ hN=>O.loadO isAgg4 rfl ((hs4.L e5).L hw_) rfl (O.o hN)) (D.ty 7 rfl rfl rfl rfl (isF rfl c11) e6 ⟨_,rfl⟩ (λ_ hw_ _ hN=>O.fa U25 rfl Z9 rfl (O.o hN)) (D.ty 8 rfl rfl rfl rfl (isF rfl c11) e6 ⟨_,rfl⟩ (λ_ hw_ _ hN=>O.loadO isAgg9 rfl (((t0.kO e4).L e5).L hw_) rfl (O.o hN)) (D.oneYes (i:=9) rfl rfl (isF rfl c11) (by kernel_rfl) (O.call call45 (args2 rfl rfl) (rbetween_spec c.key 33#8 _ hs1) ?_)))));rintro v_16 w7 ⟨rfl,e7⟩;have z7:=e7.size;refine O.o ⟨(Ext.T e6 e7),D.ty 10 rfl rfl rfl rfl (isF rfl c11) (Ext.T e6 e7) ⟨_,rfl⟩ (λ_ hw_ _ hN=>O.neqB underlying4 rfl rfl (O.o hN)) (D.tk 11 rfl rfl rfl rfl (Ext.T e6 e7) pick_form (λ_ hw_ _ hN=>O.pickF (isF rfl c11) (O.o hN)) (D.mv 12 rfl (Ext.T e6 e7) (D.splitD (x:=.tmp 19) rfl (λc19=>?_) (λc19=>?_))))⟩
 ·
  refine D.tn 13 rfl rfl (Ext.T e6 e7) rfl (noB (isT rfl c19) rfl) (D.tn 14 rfl rfl (Ext.T e6 e7) rfl (noB (isT rfl c19) rfl) (D.tn 15 rfl rfl (Ext.T e6 e7) rfl (noB (isT rfl c19) rfl) (D.tn 16 rfl rfl (Ext.T e6 e7) rfl (noB (isT rfl c19) rfl) (D.tn 17 rfl rfl (Ext.T e6 e7) rfl (noB (isT rfl c19) rfl) (D.tn 18 rfl rfl (Ext.T e6 e7) rfl (noB (isT rfl c19) rfl) (D.tk 19 rfl rfl rfl rfl (Ext.T e6 e7) pick_form (λ_ hw_ _ hN=>O.pickT (isT rfl c19) (O.o hN)) (D.mv 20 rfl (Ext.T e6 e7) (D.tn 21 rfl rfl (Ext.T e6 e7) rfl (noB rfl rfl) (D.tn 22 rfl rfl (Ext.T e6 e7) rfl (noB rfl rfl) ?_)))))))));refine D.tn 23 rfl rfl (Ext.T e6 e7) rfl (noB rfl rfl) (D.tn 24 rfl rfl (Ext.T e6 e7) rfl (noB rfl rfl) (D.tn 25 rfl rfl (Ext.T e6 e7) rfl (noB rfl rfl) (D.tn 26 rfl rfl (Ext.T e6 e7) rfl (noB rfl rfl) (D.tk 27 rfl rfl rfl rfl (Ext.T e6 e7) pick_form (λ_ hw_ _ hN=>O.pickT rfl (O.o hN)) (D.mv 28 rfl (Ext.T e6 e7) (D.tn 29 rfl rfl (Ext.T e6 e7) rfl (noB rfl rfl) (D.tn 30 rfl rfl (Ext.T e6 e7) rfl (noB rfl rfl) (D.tn 31 rfl rfl (Ext.T e6 e7) rfl (noB rfl rfl) (D.tn 32 rfl rfl (Ext.T e6 e7) rfl (noB rfl rfl) (D.tk 33 rfl rfl rfl rfl (Ext.T e6 e7) pick_form (λ_ hw_ _ hN=>O.pickT rfl (O.o hN)) (K4 (C.condT rfl ?_))))))))))));refine C.sr λK6=>O.j (K6 (C.ret (Outs.one rfl rfl ?_)))
  exact ⟨cB (Cl.valid_not (.inl (.inl (.inl (.inr c19))))),(Ext.T (Ext.T (Ext.T (Ext.nr (Ext.T (Ext.T e1 e2) e3) e4) e5) e6) e7)⟩
 refine D.ty 13 rfl rfl rfl rfl (isF rfl c19) (Ext.T e6 e7) ⟨_,rfl⟩ (λ_ hw_ _ hN=>O.idxA (i:=1) U84 Z4 rfl rfl (by omega) (O.o hN)) (D.ty 14 rfl rfl rfl rfl (isF rfl c19) (Ext.T e6 e7) ⟨_,rfl⟩ (λ_ hw_ _ hN=>O.loadO isAgg4 rfl ((hs4.L e5).L hw_) rfl (O.o hN)) (D.ty 15 rfl rfl rfl rfl (isF rfl c19) (Ext.T e6 e7) ⟨_,rfl⟩ (λ_ hw_ _ hN=>O.fa U25 rfl Z9 rfl (O.o hN)) (D.ty 16 rfl rfl rfl rfl (isF rfl c19) (Ext.T e6 e7) ⟨_,rfl⟩ (λ_ hw_ _ hN=>O.loadO isAgg9 rfl (((t0.kO e4).L e5).L hw_) rfl (O.o hN)) (D.oneYes (i:=17) rfl rfl (isF rfl c19) (by kernel_rfl) ?_))));refine O.call call45 (args2 rfl rfl) (rbetween_spec c.other 33#8 _ hs2) ?_;rintro v_24 w8 ⟨rfl,e8⟩;have z8:=e8.size;have t1:=Ext.T (Ext.T e6 e7) e8;refine O.o ⟨t1,D.ty 18 rfl rfl rfl rfl (isF rfl c19) t1 ⟨_,rfl⟩ (λ_ hw_ _ hN=>O.neqB underlying4 rfl rfl (O.o hN)) (D.tk 19 rfl rfl rfl rfl t1 pick_form (λ_ hw_ _ hN=>O.pickF (isF rfl c19) (O.o hN)) (D.mv 20 rfl t1 (D.splitD (x:=.tmp 27) rfl (λc27=>?_) (λc27=>?_))))⟩
 ·
  refine D.tn 21 rfl rfl t1 rfl (noB (isT rfl c27) rfl) (D.tn 22 rfl rfl t1 rfl (noB (isT rfl c27) rfl) (D.tn 23 rfl rfl t1 rfl (noB (isT rfl c27) rfl) (D.tn 24 rfl rfl t1 rfl (noB (isT rfl c27) rfl) (D.tn 25 rfl rfl t1 rfl (noB (isT rfl c27) rfl) (D.tn 26 rfl rfl t1 rfl (noB (isT rfl c27) rfl) (D.tk 27 rfl rfl rfl rfl t1 pick_form (λ_ hw_ _ hN=>O.pickT (isT rfl c27) (O.o hN)) (D.mv 28 rfl t1 (D.tn 29 rfl rfl t1 rfl (noB rfl rfl) (D.tn 30 rfl rfl t1 rfl (noB rfl rfl) (D.tn 31 rfl rfl t1 rfl (noB rfl rfl) (D.tn 32 rfl rfl t1 rfl (noB rfl rfl) (D.tk 33 rfl rfl rfl rfl t1 pick_form (λ_ hw_ _ hN=>O.pickT rfl (O.o hN)) (K4 (C.condT rfl (C.sr λK7=>?_)))))))))))))));refine O.j (K7 (C.ret (Outs.one rfl rfl ?_)));exact ⟨cB (Cl.valid_not (.inl (.inl (.inr c27)))),(Ext.T (Ext.T (Ext.T (Ext.T (Ext.nr (Ext.T (Ext.T e1 e2) e3) e4) e5) e6) e7) e8)⟩
 refine D.ty 21 rfl rfl rfl rfl (isF rfl c27) t1 ⟨_,rfl⟩ (λ_ hw_ _ hN=>O.idxA (i:=2) U84 Z4 rfl rfl (by omega) (O.o hN)) (D.ty 22 rfl rfl rfl rfl (isF rfl c27) t1 ⟨_,rfl⟩ (λ_ hw_ _ hN=>O.loadO isAgg4 rfl ((hs4.L e5).L hw_) rfl (O.o hN)) (D.ty 23 rfl rfl rfl rfl (isF rfl c27) t1 ⟨_,rfl⟩ (λ_ hw_ _ hN=>O.fa U25 rfl Z9 rfl (O.o hN)) (D.ty 24 rfl rfl rfl rfl (isF rfl c27) t1 ⟨_,rfl⟩ (λ_ hw_ _ hN=>O.loadO isAgg9 rfl (((t0.kO e4).L e5).L hw_) rfl (O.o hN)) (D.oneYes (i:=25) rfl rfl (isF rfl c27) (by kernel_rfl) ?_))));refine O.call call45 (args2 rfl rfl) (rbetween_spec c.item 32#8 _ hs3) ?_;rintro v_32 w9 ⟨rfl,e9⟩;have z9:=e9.size;refine O.o ⟨(Ext.T t1 e9),D.ty 26 rfl rfl rfl rfl (isF rfl c27) (Ext.T t1 e9) ⟨_,rfl⟩ (λ_ hw_ _ hN=>O.neqB underlying4 rfl rfl (O.o hN)) (D.tk 27 rfl rfl rfl rfl (Ext.T t1 e9) pick_form (λ_ hw_ _ hN=>O.pickF (isF rfl c27) (O.o hN)) (D.mv 28 rfl (Ext.T t1 e9) (D.splitD (x:=.tmp 35) rfl (λc35=>?_) (λc35=>?_))))⟩
 ·
  refine D.tn 29 rfl rfl (Ext.T t1 e9) rfl (noB (isT rfl c35) rfl) (D.tn 30 rfl rfl (Ext.T t1 e9) rfl (noB (isT rfl c35) rfl) (D.tn 31 rfl rfl (Ext.T t1 e9) rfl (noB (isT rfl c35) rfl) (D.tn 32 rfl rfl (Ext.T t1 e9) rfl (noB (isT rfl c35) rfl) (D.tk 33 rfl rfl rfl rfl (Ext.T t1 e9) pick_form (λ_ hw_ _ hN=>O.pickT (isT rfl c35) (O.o hN)) (K4 (C.condT rfl (C.sr λK8=>O.j (K8 (C.ret (Outs.one rfl rfl ?_))))))))));exact ⟨cB (Cl.valid_not (.inl (.inr c35))),(Ext.T (Ext.T (Ext.T (Ext.T (Ext.T (Ext.nr (Ext.T (Ext.T e1 e2) e3) e4) e5) e6) e7) e8) e9)⟩
 refine D.ty 29 rfl rfl rfl rfl (isF rfl c35) (Ext.T t1 e9) ⟨_,rfl⟩ (λ_ hw_ _ hN=>O.fa U25 rfl Z23 rfl (O.o hN)) (D.ty 30 rfl rfl rfl rfl (isF rfl c35) (Ext.T t1 e9) ⟨_,rfl⟩ (λ_ hw_ _ hN=>O.loadO isAgg23 rfl (((t0.kO e4).L e5).L hw_) rfl (O.o hN)) ?_);have t2:=Ext.T (Ext.T e1 e2) e3;have t3:=Ext.T (Ext.nr t2 e4) e5;refine D.ty 31 rfl rfl rfl rfl (isF rfl c35) (Ext.T t1 e9) len_form (λ_ hw_ _ hN=>O.len U23 rfl ((hd.L t3).L hw_) (O.o hN)) (D.ty 32 rfl rfl rfl rfl (isF rfl c35) (Ext.T t1 e9) ⟨_,rfl⟩ (λ_ hw_ _ hN=>O.gtrI rfl rfl (O.o hN)) (D.tk 33 rfl rfl rfl rfl (Ext.T t1 e9) pick_form (λ_ hw_ _ hN=>O.pickF (isF rfl c35) (O.o hN)) (K4 (C.condD rfl (λc40=>?_) (λc40=>?_)))))
 ·
  refine C.sr λK9=>O.j (K9 (C.ret (Outs.one rfl rfl ?_)))
  exact ⟨cB (Cl.valid_not (.inr c40)),(Ext.T (Ext.T (Ext.T (Ext.T t3 e6) e7) e8) e9)⟩
 refine C.skip (K3 (C.sr λK10=>O.idxA (i:=0) U84 Z4 rfl rfl (by omega) ?_));have t4:=(hs4.L e5).L e6;have t5:=(t4.L e7).L e8;refine O.loadO isAgg4 rfl (t5.L e9) rfl (O.mv (O.cut 4 (λf f'=>f' 47=.bool ((Cl.has c.op 107||decide (c.key=[])))∧f' 1=f 1∧f' 3=f 3) ?_ ?_))
 ·
  refine O.split (x:=.tmp 43) rfl (λc43=>?_) (λc43=>?_)
  ·
   refine O.no rfl (noB (isT' rfl c43) rfl) (O.no rfl (noB (isT' rfl c43) rfl) (O.no rfl (noB (isT' rfl c43) rfl) (O.pickT (isT' rfl c43) (O.o (⟨⟨?_,rfl,rfl⟩,rfl⟩)))))
   first|exact Eq.trans rfl (cB (by rw[c43];rfl))
  refine O.yes rfl (isF' rfl c43) (O.fa U25 rfl Z9 rfl (O.yes rfl (isF' rfl c43) (O.loadO isAgg9 rfl ((((((t0.kO e4).L e5).L e6).L e7).L e8).L e9) rfl (O.yes rfl (isF' rfl c43) (O.eqlS rfl rfl (O.pickF (isF' rfl c43) (O.o (⟨⟨?_,rfl,rfl⟩,rfl⟩))))))))
  first|exact Eq.trans rfl (cB (by rw[c43];rfl))
 rintro f_1 ⟨s47_1,s1_1,s3_1⟩;refine O.mv (O.cut 8 (λf f'=>f' 56=.bool (((Cl.has c.op 107||decide (c.key=[]))&&(Cl.has c.op 111||decide (c.other=[]))))∧f' 1=f 1∧f' 3=f 3) ?_ ?_)
 ·
  refine O.split (x:=.tmp 48) s47_1 (λc48=>?_) (λc48=>?_)
  ·
   refine O.yes rfl (isT' s47_1 c48) (O.idxA (i:=1) U84 Z4 s3_1 rfl (by omega) (O.yes rfl (isT' s47_1 c48) (O.loadO isAgg4 rfl (t5.L e9) rfl (O.yes rfl (isT' s47_1 c48) (O.mv (O.split (x:=.tmp 51) rfl (λc51=>?_) (λc51=>?_)))))))
   ·
    refine O.no rfl (noB (isT' rfl c51) rfl) (O.no rfl (noB (isT' rfl c51) rfl) (O.no rfl (noB (isT' rfl c51) rfl) (O.yes rfl (isT' s47_1 c48) (O.pickT (isT' rfl c51) (O.pickT (isT' s47_1 c48) (O.o (⟨⟨?_,rfl,rfl⟩,rfl⟩)))))))
    first|exact Eq.trans rfl (cB (by rw[c48,c51];rfl))|exact Eq.trans rfl (cB (by rw[c48];rfl))
   refine O.yes rfl (isF' rfl c51) (O.fa U25 rfl Z9 s1_1 (O.yes rfl (isF' rfl c51) (O.loadO isAgg9 rfl ((((((t0.kO e4).L e5).L e6).L e7).L e8).L e9) rfl (O.yes rfl (isF' rfl c51) (O.eqlS rfl rfl (O.yes rfl (isT' s47_1 c48) (O.pickF (isF' rfl c51) (O.pickT (isT' s47_1 c48) (O.o (⟨⟨?_,rfl,rfl⟩,rfl⟩))))))))))
   first|exact Eq.trans rfl (cB (by rw[c48,c51];rfl))|exact Eq.trans rfl (cB (by rw[c48];rfl))
  refine O.no rfl (noB (isF' s47_1 c48) rfl) (O.no rfl (noB (isF' s47_1 c48) rfl) (O.no rfl (noB (isF' s47_1 c48) rfl) (O.no rfl (noU rfl) (O.no rfl (noU rfl) (O.no rfl (noU rfl) (O.no rfl (noB (isF' s47_1 c48) rfl) (O.pickF (isF' s47_1 c48) (O.o (⟨⟨?_,rfl,rfl⟩,rfl⟩)))))))))
  first|exact Eq.trans rfl (cB (by rw[c48,c51];rfl))|exact Eq.trans rfl (cB (by rw[c48];rfl))
 rintro f_2 ⟨s56_2,s1_2,s3_2⟩;refine O.mv (O.cut 8 (λf f'=>f' 65=.bool ((((Cl.has c.op 107||decide (c.key=[]))&&(Cl.has c.op 111||decide (c.other=[])))&&(Cl.has c.op 105||decide (c.item=[]))))∧f' 1=f 1∧f' 3=f 3) ?_ ?_)
 ·
  refine O.split (x:=.tmp 57) s56_2 (λc57=>?_) (λc57=>?_)
  ·
   refine O.yes rfl (isT' s56_2 c57) (O.idxA (i:=2) U84 Z4 (Eq.trans s3_2 s3_1) rfl (by omega) (O.yes rfl (isT' s56_2 c57) (O.loadO isAgg4 rfl (t5.L e9) rfl (O.yes rfl (isT' s56_2 c57) (O.mv (O.split (x:=.tmp 60) rfl (λc60=>?_) (λc60=>?_)))))))
   ·
    refine O.no rfl (noB (isT' rfl c60) rfl) (O.no rfl (noB (isT' rfl c60) rfl) (O.no rfl (noB (isT' rfl c60) rfl) (O.yes rfl (isT' s56_2 c57) (O.pickT (isT' rfl c60) (O.pickT (isT' s56_2 c57) (O.o (⟨⟨?_,rfl,rfl⟩,rfl⟩)))))))
    first|exact Eq.trans rfl (cB (by rw[c57,c60];rfl))|exact Eq.trans rfl (cB (by rw[c57];rfl))
   refine O.yes rfl (isF' rfl c60) (O.fa U25 rfl Z9 (Eq.trans s1_2 s1_1) (O.yes rfl (isF' rfl c60) (O.loadO isAgg9 rfl ((((((t0.kO e4).L e5).L e6).L e7).L e8).L e9) rfl (O.yes rfl (isF' rfl c60) (O.eqlS rfl rfl (O.yes rfl (isT' s56_2 c57) (O.pickF (isF' rfl c60) (O.pickT (isT' s56_2 c57) (O.o (⟨⟨?_,rfl,rfl⟩,rfl⟩))))))))))
   first|exact Eq.trans rfl (cB (by rw[c57,c60];rfl))|exact Eq.trans rfl (cB (by rw[c57];rfl))
  refine O.no rfl (noB (isF' s56_2 c57) rfl) (O.no rfl (noB (isF' s56_2 c57) rfl) (O.no rfl (noB (isF' s56_2 c57) rfl) (O.no rfl (noU rfl) (O.no rfl (noU rfl) (O.no rfl (noU rfl) (O.no rfl (noB (isF' s56_2 c57) rfl) (O.pickF (isF' s56_2 c57) (O.o (⟨⟨?_,rfl,rfl⟩,rfl⟩)))))))))
  first|exact Eq.trans rfl (cB (by rw[c57,c60];rfl))|exact Eq.trans rfl (cB (by rw[c57];rfl))
 rintro f_3 ⟨s65_3,s1_3,s3_3⟩;refine O.mv (O.cut 8 (λf f'=>f' 74=.bool (((((Cl.has c.op 107||decide (c.key=[]))&&(Cl.has c.op 111||decide (c.other=[])))&&(Cl.has c.op 105||decide (c.item=[])))&&(Cl.has c.op 113||decide (c.qty=0))))∧f' 1=f 1∧f' 3=f 3) ?_ ?_)
 ·
  refine O.split (x:=.tmp 66) s65_3 (λc66=>?_) (λc66=>?_)
  ·
   refine O.yes rfl (isT' s65_3 c66) (O.idxA (i:=3) U84 Z4 (Eq.trans s3_3 (Eq.trans s3_2 s3_1)) rfl (by omega) (O.yes rfl (isT' s65_3 c66) (O.loadO isAgg4 rfl (t5.L e9) rfl (O.yes rfl (isT' s65_3 c66) (O.mv (O.split (x:=.tmp 69) rfl (λc69=>?_) (λc69=>?_)))))))
   ·
    refine O.no rfl (noB (isT' rfl c69) rfl) (O.no rfl (noB (isT' rfl c69) rfl) (O.no rfl (noB (isT' rfl c69) rfl) (O.yes rfl (isT' s65_3 c66) (O.pickT (isT' rfl c69) (O.pickT (isT' s65_3 c66) (O.o (⟨⟨?_,rfl,rfl⟩,rfl⟩)))))))
    first|exact Eq.trans rfl (cB (by rw[c66,c69];rfl))|exact Eq.trans rfl (cB (by rw[c66];rfl))
   refine O.yes rfl (isF' rfl c69) (O.fa U25 rfl Z3 (Eq.trans s1_3 (Eq.trans s1_2 s1_1)) (O.yes rfl (isF' rfl c69) (O.loadO isAgg3 rfl ((((((t0.kO e4).L e5).L e6).L e7).L e8).L e9) rfl (O.yes rfl (isF' rfl c69) (O.eqlI rfl rfl (O.yes rfl (isT' s65_3 c66) (O.pickF (isF' rfl c69) (O.pickT (isT' s65_3 c66) (O.o (⟨⟨?_,rfl,rfl⟩,rfl⟩))))))))))
   first|exact Eq.trans rfl (cB (by rw[c66,c69];rfl))|exact Eq.trans rfl (cB (by rw[c66];rfl))
  refine O.no rfl (noB (isF' s65_3 c66) rfl) (O.no rfl (noB (isF' s65_3 c66) rfl) (O.no rfl (noB (isF' s65_3 c66) rfl) (O.no rfl (noU rfl) (O.no rfl (noU rfl) (O.no rfl (noU rfl) (O.no rfl (noB (isF' s65_3 c66) rfl) (O.pickF (isF' s65_3 c66) (O.o (⟨⟨?_,rfl,rfl⟩,rfl⟩)))))))))
  first|exact Eq.trans rfl (cB (by rw[c66,c69];rfl))|exact Eq.trans rfl (cB (by rw[c66];rfl))
 rintro f_4 ⟨s74_4,s1_4,s3_4⟩;refine O.mv (O.cut 9 (λf f'=>f' 84=.bool ((((((Cl.has c.op 107||decide (c.key=[]))&&(Cl.has c.op 111||decide (c.other=[])))&&(Cl.has c.op 105||decide (c.item=[])))&&(Cl.has c.op 113||decide (c.qty=0)))&&(Cl.has c.op 100||decide ((c.data.length:Int)=0))))) ?_ ?_)
 ·
  refine O.split (x:=.tmp 75) s74_4 (λc75=>?_) (λc75=>?_)
  ·
   refine O.yes rfl (isT' s74_4 c75) (O.idxA (i:=4) U84 Z4 (Eq.trans s3_4 (Eq.trans s3_3 (Eq.trans s3_2 s3_1))) rfl (by omega) (O.yes rfl (isT' s74_4 c75) (O.loadO isAgg4 rfl (t5.L e9) rfl (O.yes rfl (isT' s74_4 c75) (O.mv (O.split (x:=.tmp 78) rfl (λc78=>?_) (λc78=>?_)))))))
   ·
    refine O.no rfl (noB (isT' rfl c78) rfl) (O.no rfl (noB (isT' rfl c78) rfl) (O.no rfl (noB (isT' rfl c78) rfl) (O.no rfl (noB (isT' rfl c78) rfl) (O.yes rfl (isT' s74_4 c75) (O.pickT (isT' rfl c78) (O.pickT (isT' s74_4 c75) (O.o (⟨?_,rfl⟩))))))))
    first|exact Eq.trans rfl (cB (by rw[c75,c78];rfl))|exact Eq.trans rfl (cB (by rw[c75];rfl))
   refine O.yes rfl (isF' rfl c78) (O.fa U25 rfl Z23 (Eq.trans s1_4 (Eq.trans s1_3 (Eq.trans s1_2 s1_1))) (O.yes rfl (isF' rfl c78) (O.loadO isAgg23 rfl ((((((t0.kO e4).L e5).L e6).L e7).L e8).L e9) rfl (O.yes rfl (isF' rfl c78) (O.len U23 rfl (hd.L (Ext.T (Ext.T (Ext.T (Ext.T t3 e6) e7) e8) e9)) (O.yes rfl (isF' rfl c78) (O.eqlI rfl rfl (O.yes rfl (isT' s74_4 c75) (O.pickF (isF' rfl c78) (O.pickT (isT' s74_4 c75) (O.o (⟨?_,rfl⟩))))))))))))
   first|exact Eq.trans rfl (cB (by rw[c75,c78];rfl))|exact Eq.trans rfl (cB (by rw[c75];rfl))
  refine O.no rfl (noB (isF' s74_4 c75) rfl) (O.no rfl (noB (isF' s74_4 c75) rfl) (O.no rfl (noB (isF' s74_4 c75) rfl) (O.no rfl (noU rfl) (O.no rfl (noU rfl) (O.no rfl (noU rfl) (O.no rfl (noU rfl) (O.no rfl (noB (isF' s74_4 c75) rfl) (O.pickF (isF' s74_4 c75) (O.o (⟨?_,rfl⟩))))))))))
  first|exact Eq.trans rfl (cB (by rw[c75,c78];rfl))|exact Eq.trans rfl (cB (by rw[c75];rfl))
 intro f_5 s84_5;refine O.j (K10 (C.ret (Outs.one rfl s84_5 ?_)));exact ⟨cB (Cl.valid_ref c11 c19 c27 c35 c40),(Ext.T (Ext.T (Ext.T (Ext.T t3 e6) e7) e8) e9)⟩
theorem encode_spec (c:Cl.Call)(vd:Value)(F:Nat->Prop)(w:World)(hd:Sl byteE w F vd c.data)(hs:Cl.Short c)(gw:Gw w):
 Ret prog 12 #[.agg #[.int .i64 c.op,str c.key,str c.other,str c.item,.int .i64 c.qty,vd]] w (λv w'=>∃r:Value,v=.tuple #[r,.int .i64 (if Cl.valid c=true then 0 else 2)]∧OwnF byteF 5 w.heap.size w' r (if Cl.valid c=true then Cl.bytes c else [])∧Le w w'):=by
 have hrw:=gw.o;have hs0:=hs;have hsd:=hs.2.2.2;have hdo:=hd.oneC;obtain ⟨ie5,ti5,ts5,tb5,tz5⟩:=inf5;refine enT [.agg #[.int .i64 c.op,str c.key,str c.other,str c.item,.int .i64 c.qty,vd]] 51 func12 rfl rfl (C.sr λK1=>O.box (v:=.agg #[.int .i64 c.op,str c.key,str c.other,str c.item,.int .i64 c.qty,vd]) rfl (λb1 w1 hb1 hz1 e1=>?_));have z1:=e1.size;have h1:=hz1.own;have hl1:=h1.lt;refine O.j (O.j (K1 (C.sq λK2=>C.sr λK3=>O.loadOA isAgg25 Z25 rfl h1 (leB rfl) (O.call call13 (args1 rfl) (valid_spec c vd F _ (hd.L e1) hs0 (gw.L e1)) ?_))));rintro v_8 w2 ⟨rfl,e2⟩;have z2:=e2.size;refine O.not rfl (K3 (C.cond rfl (λc9=>?_) (λc9=>?_)))
 ·
  have hv:¬Cl.valid c=true:=by simpa using c9
  refine C.sr λK4=>O.j (O.j (K4 (C.ret (Outs.two rfl rfl rfl ?_))))
  rw[if_neg hv,if_neg hv];exact ⟨_,rfl,OwnF.nil _ _ _ _,(Ext.T e1 e2)⟩
 have hv:Cl.valid c=true:=by simpa using c9
 have ho:=(Cl.valid_iff.1 hv).1;have sp1_:=Cl.op_row ho;obtain ⟨hrl,hrr⟩:=sp1_;have hob:=of_decide_eq_true ho;refine C.skip (K2 (C.sr λK5=>O.alloc zeroValue69 (λb4 w3 hb4 hz4 e3=>?_)));have z3:=e3.size;have h4:=hz4.own;have hl4:=h4.lt;have hwr4:Wr 69 5 w3 b4 b4 ([]):=Wr.new h4;refine K5 (C.sr λK6=>O.fa U25 rfl Z22 rfl ?_);have t0:=(h1.L e2).L e3;refine O.loadO isAgg22 rfl t0 rfl (O.convIU (m':=8) underlying22 U5 rfl rfl rfl (O.lit1 U23 ti5 ts5 tz5 rfl rfl (λb13 w4 hb13 hz13 e4=>?_)));have z4:=e4.size;have h13:=hz13.own;have hl13:=h13.lt;have h13s:Sl byteE w4 (λk=>k=b13) (.slice (some ⟨b13,0,none⟩) 1 1) [Cl.opB c.op]:=Sl.one (G:=byteF) h13 rfl rfl;refine O.call call36 (args2 rfl rfl) (wput_spec b4 b4 [] (.slice (some ⟨b13,0,none⟩) 1 1) [Cl.opB c.op] (λk=>k=b13) _ (hwr4.L e4) (by simp) h13s (by simp)) ?_;rintro v_14 w5 ⟨rfl,gv14,hv14,hgv14,hlv14,e5⟩;have z5:=e5.size;refine K6 (C.sq λK7=>C.sr λK8=>O.fa U25 rfl Z22 rfl (O.loadO isAgg22 rfl ((t0.L e4).kO e5) rfl (O.idxA U73 Z72 rfl rfl (by omega) ?_)));have t1:=Ext.T (Ext.T e1 e2) e3;have t2:=Ext.new (Ext.T t1 e4) e5 (by intro i hi h;(try dsimp only at h);omega);have h17:=Row.at (hrw.L t2) (i:=c.op.toNat) hrl;refine O.ft U72 rfl Z9 rfl (O.loadAtF (G:=rowF) isAgg9 rfl rfl h17 (O.cast (v':=str (Cl.parts c.op)) (by rw[hrr]) (O.rangeS U9 rfl (λb20 w6 hb20 it20 e6=>?_))));have z6:=e6.size;have li20:=it20.lt;refine K8 (C.bl λK9=>C.loop0 (σ:=Nat×Nat) (λf0 w0 ⟨k,g⟩ f wz=>f 1=f0 1∧f 2=f0 2∧f 3=f0 3∧f 4=f0 4∧f 20=f0 20∧Le w wz∧Wr 69 5 wz b4 g (Cl.opB c.op::((Cl.parts c.op).take k).flatMap (Cl.pieceB c))∧ItS wz b20 (Cl.parts c.op) k∧Own wz b1 25 [.int .i64 c.op,str c.key,str c.other,str c.item,.int .i64 c.qty,vd]∧w.heap.size<=g∧g≠b20∧g≠b1∧g<wz.heap.size) (λ⟨k,g⟩=>(Cl.parts c.op).length-k) (0,gv14) ?_ ?_)
 ·
  refine ⟨rfl,rfl,rfl,rfl,rfl,(Ext.T t2 e6),(hv14.L e6),it20,(((t0.L e4).kO e5).L e6),?_⟩
  omega
 rintro ⟨k,g⟩ f_1 w7 ⟨s1_1,s2_1,s3_1,s4_1,s20_1,e_1,r0_1,r1_1,r2_1,⟨hg1,hg2,hg3,hg4⟩⟩;have z_1:=e_1.size;have li9:=(r1_1).lt;have l19:=(r2_1).lt;refine C.sr λK10=>O.nextS s20_1 r1_1 (Cl.ascii c.op) (λhq21=>?_) (λw8 hq21 it21 e8 z8=>?_)
 ·
  subst hq21;have hwx:=r0_1;rw[List.take_length] at hwx;refine O.extract rfl rfl (K10 (C.sq λK11=>C.condF rfl (C.exit (K9 (K7 (C.sr λK12=>O.call call39 (args1 s4_1) (wbytes_spec b4 g _ _ hwx (by have h91:=Cl.bytes_take hs0 (Cl.parts c.op).length;rw[List.take_length] at h91;rw[List.length_cons];omega)) ?_))))));rintro v_50 w9 ⟨e9,h50⟩;have z9:=e9.size;refine O.j (O.j (K12 (C.ret (Outs.two rfl rfl rfl ?_))));rw[if_pos hv,if_pos hv];exact ⟨_,rfl,(h50).low (by omega),(Ext.T e_1 e9)⟩
 have hpl:=Cl.pl_le c.op;refine O.extract rfl rfl (K10 (C.sq λK13=>C.condT rfl (C.skip (K13 (C.bl λK14=>C.sr λK15=>O.extract rfl rfl (O.j (K15 (C.sr λK16=>O.mv (K16 (C.bl λK17=>C.sr λK18=>O.eqlK rfl rfl (O.j (K18 (C.condD rfl (λc29=>?_) (λc29=>?_))))))))))))))
 ·
  refine C.region (O.fa U25 rfl Z9 s1_1 (O.loadO isAgg9 rfl (r2_1.kO e8) rfl (O.call call37 (args2 s4_1 rfl) (wstr_spec b4 g _ c.key _ (r0_1.keepA e8) (by have h91:=Cl.bytes_take hs0 k;rw[List.length_cons];omega) hs0.1) ?_)));rintro v_33 w10 ⟨rfl,gv33,hv33,hgv33,hlv33,e10⟩;have z10:=e10.size;have hg9:=hgv33;have hl9:=hlv33;refine O.o (K17 (K14 (⟨(k+1,gv33),⟨s1_1,s2_1,s3_1,s4_1,s20_1,(Ext.new (Ext.nr e_1 e8) e10 (by intro i hi h;(try dsimp only at h);omega)),((Cl.bytes_next hq21 (by first|exact Cl.pb_k c29|exact Cl.pb_o c34|exact Cl.pb_q c39|exact Cl.pb_i c45|exact Cl.pb_d c29 c34 c39 c45)) ▸ hv33),(it21.kO e10),((r2_1.kO e8).kO e10),?_⟩,by first|omega|(simp only[];omega)⟩)))
  omega
 refine C.sr λK19=>O.eqlK rfl rfl (O.j (K19 (C.condD rfl (λc34=>?_) (λc34=>?_))))
 ·
  refine C.region (O.fa U25 rfl Z9 s1_1 (O.loadO isAgg9 rfl (r2_1.kO e8) rfl (O.call call37 (args2 s4_1 rfl) (wstr_spec b4 g _ c.other _ (r0_1.keepA e8) (by have h91:=Cl.bytes_take hs0 k;rw[List.length_cons];omega) hs0.2.1) ?_)));rintro v_38 w11 ⟨rfl,gv38,hv38,hgv38,hlv38,e11⟩;have z11:=e11.size;have hg9:=hgv38;have hl9:=hlv38;refine O.o (K17 (K14 (⟨(k+1,gv38),⟨s1_1,s2_1,s3_1,s4_1,s20_1,(Ext.new (Ext.nr e_1 e8) e11 (by intro i hi h;(try dsimp only at h);omega)),((Cl.bytes_next hq21 (by first|exact Cl.pb_k c29|exact Cl.pb_o c34|exact Cl.pb_q c39|exact Cl.pb_i c45|exact Cl.pb_d c29 c34 c39 c45)) ▸ hv38),(it21.kO e11),((r2_1.kO e8).kO e11),?_⟩,by first|omega|(simp only[];omega)⟩)))
  omega
 refine C.sr λK20=>O.eqlK rfl rfl (O.j (K20 (C.condD rfl (λc39=>?_) (λc39=>?_))))
 ·
  refine C.region (O.fa U25 rfl Z3 s1_1 (O.loadO isAgg3 rfl (r2_1.kO e8) rfl (O.convIU (m':=64) U3 U76 rfl rfl rfl (O.call call38 (args2 s4_1 rfl) (wnum_spec b4 g _ (BitVec.ofInt 64 c.qty) _ (r0_1.keepA e8) (by have h91:=Cl.bytes_take hs0 k;rw[List.length_cons];omega)) ?_))));rintro v_44 w12 ⟨rfl,gv44,hv44,hgv44,hlv44,e12⟩;have z12:=e12.size;have hg9:=hgv44;have hl9:=hlv44;refine O.o (K17 (K14 (⟨(k+1,gv44),⟨s1_1,s2_1,s3_1,s4_1,s20_1,(Ext.new (Ext.nr e_1 e8) e12 (by intro i hi h;(try dsimp only at h);omega)),((Cl.bytes_next hq21 (by first|exact Cl.pb_k c29|exact Cl.pb_o c34|exact Cl.pb_q c39|exact Cl.pb_i c45|exact Cl.pb_d c29 c34 c39 c45)) ▸ hv44),(it21.kO e12),((r2_1.kO e8).kO e12),?_⟩,by first|omega|(simp only[];omega)⟩)))
  omega
 refine C.sr λK21=>O.eqlK rfl rfl (O.j (K21 (C.condD rfl (λc45=>?_) (λc45=>?_))))
 ·
  refine C.region (O.fa U25 rfl Z9 s1_1 (O.loadO isAgg9 rfl (r2_1.kO e8) rfl (O.call call37 (args2 s4_1 rfl) (wstr_spec b4 g _ c.item _ (r0_1.keepA e8) (by have h91:=Cl.bytes_take hs0 k;rw[List.length_cons];omega) hs0.2.2.1) ?_)));rintro v_49 w13 ⟨rfl,gv49,hv49,hgv49,hlv49,e13⟩;have z13:=e13.size;have hg9:=hgv49;have hl9:=hlv49;refine O.o (K17 (K14 (⟨(k+1,gv49),⟨s1_1,s2_1,s3_1,s4_1,s20_1,(Ext.new (Ext.nr e_1 e8) e13 (by intro i hi h;(try dsimp only at h);omega)),((Cl.bytes_next hq21 (by first|exact Cl.pb_k c29|exact Cl.pb_o c34|exact Cl.pb_q c39|exact Cl.pb_i c45|exact Cl.pb_d c29 c34 c39 c45)) ▸ hv49),(it21.kO e13),((r2_1.kO e8).kO e13),?_⟩,by first|omega|(simp only[];omega)⟩)))
  omega
 refine C.region (O.fa U25 rfl Z23 s1_1 (O.loadO isAgg23 rfl (r2_1.kO e8) rfl (O.bytesS U23 U5 U9 rfl (hd.L (Ext.nr e_1 e8)) (O.call call37 (args2 s4_1 rfl) (wstr_spec b4 g _ c.data _ (r0_1.keepA e8) (by have h91:=Cl.bytes_take hs0 k;rw[List.length_cons];omega) hs0.2.2.2) ?_))));rintro v_28 w14 ⟨rfl,gv28,hv28,hgv28,hlv28,e14⟩;have z14:=e14.size;have hg9:=hgv28;have hl9:=hlv28;refine O.o (K17 (K14 (⟨(k+1,gv28),⟨s1_1,s2_1,s3_1,s4_1,s20_1,(Ext.new (Ext.nr e_1 e8) e14 (by intro i hi h;(try dsimp only at h);omega)),((Cl.bytes_next hq21 (by first|exact Cl.pb_k c29|exact Cl.pb_o c34|exact Cl.pb_q c39|exact Cl.pb_i c45|exact Cl.pb_d c29 c34 c39 c45)) ▸ hv28),(it21.kO e14),((r2_1.kO e8).kO e14),?_⟩,by first|omega|(simp only[];omega)⟩)))
 omega
theorem rbytes_spec (c:Cl.Call)(vd:Value)(F:Nat->Prop)(w:World)(hd:Sl byteE w F vd c.data)(hs:Cl.Short c)(hv:Cl.valid c=true):
 Ret prog 17 #[.agg #[.int .i64 c.op,str c.key,str c.other,str c.item,.int .i64 c.qty,vd]] w (λv w'=>Le w w'∧OwnF byteF 5 w.heap.size w' v (Cl.bytes c)):=by
 have hs0:=hs;have hsd:=hs.2.2.2;have hdo:=hd.oneC;have hbx:=Cl.bx_le hs0;obtain ⟨ie5,ti5,ts5,tb5,tz5⟩:=inf5;refine enT [.agg #[.int .i64 c.op,str c.key,str c.other,str c.item,.int .i64 c.qty,vd]] 50 func17 rfl rfl (C.sr λK1=>O.box (v:=.agg #[.int .i64 c.op,str c.key,str c.other,str c.item,.int .i64 c.qty,vd]) rfl (λb1 w1 hb1 hz1 e1=>?_));have z1:=e1.size;have h1:=hz1.own;have hl1:=h1.lt;refine O.j (K1 (C.sr λK2=>O.fa U25 rfl Z22 rfl (O.loadO isAgg22 rfl h1 rfl (O.call call43 (args1 rfl) (needs_spec _ _) ?_))));rintro v_7 w2 ⟨rfl,e2⟩;have z2:=e2.size;refine O.alloc zeroValue84 (λb3 w3 hb3 hz3 e3=>?_);have z3:=e3.size;have h3:=hz3.own;have hl3:=h3.lt;refine O.storeA (vs:=[.bool (Cl.has c.op 107),.bool (Cl.has c.op 111),.bool (Cl.has c.op 105),.bool (Cl.has c.op 113),.bool (Cl.has c.op 100)]) Z84 rfl rfl rfl (by intro u hu;simp only[List.mem_cons,List.not_mem_nil,or_false] at hu;rcases hu with rfl|rfl|rfl|rfl|rfl<;>rfl) h3 (leB rfl) (λw4 hs4 e4 z4=>K2 (C.sr λK3=>O.fa U25 rfl Z22 rfl ?_));have sp2_:∃n,n=w4.heap.size:=⟨_,rfl⟩
 obtain ⟨wB,hwB⟩:=sp2_;have t0:=(h1.L e2).L e3;refine O.loadO isAgg22 rfl (t0.kO e4) rfl (O.convIU (m':=8) underlying22 U5 rfl rfl rfl (O.lit1 U23 ti5 ts5 tz5 rfl rfl (λb11 w5 hb11 hz11 e5=>?_)));have z5:=e5.size;have hl11:=hz11.own.lt;have hap11:OwnF byteF 5 wB w5 (.slice (some ⟨b11,0,none⟩) 1 1) [Cl.opB c.op]:=OwnF.lit1 rfl hz11 rfl (by omega);refine O.j (K3 (C.sq λK4=>C.sr λK5=>O.idxA (i:=0) U84 Z4 rfl rfl (by omega) (O.loadO isAgg4 rfl (hs4.L e5) rfl (K5 (C.join (λf w f' w'=>Ext (λj=>wB<=j) w w'∧f' 1=f 1∧f' 2=f 2∧f' 3=f 3∧∃(u4:Value),f' 4=u4∧OwnF byteF 5 wB w' u4 (Cl.bx1 c)) ?_ ?_)))))
 ·
  refine C.cond rfl (λc13=>?_) (λc13=>?_)
  ·
   refine C.region (O.mv (O.fa U25 rfl Z9 rfl (O.loadO isAgg9 rfl ((t0.kO e4).L e5) rfl (O.call call48 (args1 rfl) (rstr_spec c.key _ hs0.1) ?_))));rintro v_17 w6 ⟨e6,h17⟩;have z6:=e6.size;have h17s:=h17.sl;refine O.appF (G:=byteF) U23 ti5 tz5 ts5 rfl rfl rfl (hap11.L e6) h17s (by rw[tb5,List.length_singleton];omega) (by unfold maxLen;rw[List.length_singleton];omega) (by omega) (λv18 w7 h18 e7=>?_);have e7m:Ext (λj=>wB<=j) w6 w7:=e7.mono (λj _ hj=>((hap11.L e6).bk_ge j hj).1);have z7:=e7.size;have h18s:=h18.sl;refine O.j (O.o ?_);exact ⟨(Ext.nw (Ext.nw (Ext.L _ _) e6) e7m),rfl,rfl,rfl,⟨_,rfl,(by first|exact (h18).lst (Cl.addB_t c13)|exact (h18).lst (Cl.addB_f c13))⟩⟩
  refine C.skip ?_;exact ⟨(Ext.L _ _),rfl,rfl,rfl,⟨_,rfl,(by first|exact (hap11).lst (Cl.addB_t c13)|exact (hap11).lst (Cl.addB_f c13))⟩⟩
 rintro f_1 w8 ⟨e_1,s1_1,s2_1,s3_1,⟨u4,s4_1,q0_1⟩⟩;have z_1:=e_1.size;refine K4 (C.sq λK6=>C.sr λK7=>O.idxA (i:=1) U84 Z4 s3_1 rfl (by omega) ?_);have t1:=(hs4.L e5).kO e_1;refine O.loadO isAgg4 rfl t1 rfl (K7 (C.join (λf w f' w'=>Ext (λj=>wB<=j) w w'∧f' 1=f 1∧f' 2=f 2∧f' 3=f 3∧∃(u4:Value),f' 4=u4∧OwnF byteF 5 wB w' u4 (Cl.bx2 c)) ?_ ?_))
 ·
  refine C.cond rfl (λc20=>?_) (λc20=>?_)
  ·
   refine C.region (O.mv (O.fa U25 rfl Z9 s1_1 (O.loadO isAgg9 rfl (((t0.kO e4).L e5).kO e_1) rfl (O.call call48 (args1 rfl) (rstr_spec c.other _ hs0.2.1) ?_))));rintro v_24 w9 ⟨e9,h24⟩;have z9:=e9.size;have h24s:=h24.sl;refine O.appF (G:=byteF) U23 ti5 tz5 ts5 rfl s4_1 rfl (q0_1.L e9) h24s (by rw[tb5];have h91:=Cl.bx_le hs0;omega) (by unfold maxLen;have h91:=Cl.bx_le hs0;omega) (by omega) (λv25 w10 h25 e10=>?_);have e10m:Ext (λj=>wB<=j) w9 w10:=e10.mono (λj _ hj=>((q0_1.L e9).bk_ge j hj).1);have z10:=e10.size;have h25s:=h25.sl;refine O.j (O.o ?_);exact ⟨(Ext.nw (Ext.nw (Ext.L _ _) e9) e10m),rfl,rfl,rfl,⟨_,rfl,(by first|exact (h25).lst (Cl.addB_t c20)|exact (h25).lst (Cl.addB_f c20))⟩⟩
  refine C.skip ?_;exact ⟨(Ext.L _ _),rfl,rfl,rfl,⟨_,s4_1,(by first|exact (q0_1).lst (Cl.addB_t c20)|exact (q0_1).lst (Cl.addB_f c20))⟩⟩
 rintro f_2 w11 ⟨e_2,s1_2,s2_2,s3_2,⟨u4,s4_2,q0_2⟩⟩;have z_2:=e_2.size;refine K6 (C.sq λK8=>C.sr λK9=>O.idxA (i:=3) U84 Z4 (Eq.trans s3_2 s3_1) rfl (by omega) (O.loadO isAgg4 rfl (t1.kO e_2) rfl (K9 (C.join (λf w f' w'=>Ext (λj=>wB<=j) w w'∧f' 1=f 1∧f' 2=f 2∧f' 3=f 3∧∃(u4:Value),f' 4=u4∧OwnF byteF 5 wB w' u4 (Cl.bx3 c)) ?_ ?_))))
 ·
  refine C.cond rfl (λc27=>?_) (λc27=>?_)
  ·
   refine C.region (O.mv (O.fa U25 rfl Z3 (Eq.trans s1_2 s1_1) (O.loadO isAgg3 rfl ((((t0.kO e4).L e5).kO e_1).kO e_2) rfl (O.convIU (m':=64) U3 U76 rfl rfl rfl (O.call call49 (args1 rfl) (rnum_spec (BitVec.ofInt 64 c.qty) _) ?_)))));rintro v_32 w12 ⟨e12,h32⟩;have z12:=e12.size;have h32s:=h32.sl;refine O.appF (G:=byteF) U23 ti5 tz5 ts5 rfl s4_2 rfl (q0_2.L e12) h32s (by rw[tb5];have h91:=Cl.bx_le hs0;omega) (by unfold maxLen;have h91:=Cl.bx_le hs0;omega) (by omega) (λv33 w13 h33 e13=>?_);have e13m:Ext (λj=>wB<=j) w12 w13:=e13.mono (λj _ hj=>((q0_2.L e12).bk_ge j hj).1);have z13:=e13.size;have h33s:=h33.sl;refine O.j (O.o ?_);exact ⟨(Ext.nw (Ext.nw (Ext.L _ _) e12) e13m),rfl,rfl,rfl,⟨_,rfl,(by first|exact (h33).lst (Cl.addB_t c27)|exact (h33).lst (Cl.addB_f c27))⟩⟩
  refine C.skip ?_;exact ⟨(Ext.L _ _),rfl,rfl,rfl,⟨_,s4_2,(by first|exact (q0_2).lst (Cl.addB_t c27)|exact (q0_2).lst (Cl.addB_f c27))⟩⟩
 rintro f_3 w14 ⟨e_3,s1_3,s2_3,s3_3,⟨u4,s4_3,q0_3⟩⟩;have z_3:=e_3.size;refine K8 (C.sq λK10=>C.sr λK11=>O.idxA (i:=2) U84 Z4 (Eq.trans s3_3 (Eq.trans s3_2 s3_1)) rfl (by omega) (O.loadO isAgg4 rfl ((t1.kO e_2).kO e_3) rfl (K11 (C.join (λf w f' w'=>Ext (λj=>wB<=j) w w'∧f' 1=f 1∧f' 2=f 2∧f' 3=f 3∧∃(u4:Value),f' 4=u4∧OwnF byteF 5 wB w' u4 (Cl.bx4 c)) ?_ ?_))))
 ·
  refine C.cond rfl (λc35=>?_) (λc35=>?_)
  ·
   refine C.region (O.mv (O.fa U25 rfl Z9 (Eq.trans s1_3 (Eq.trans s1_2 s1_1)) (O.loadO isAgg9 rfl (((((t0.kO e4).L e5).kO e_1).kO e_2).kO e_3) rfl (O.call call48 (args1 rfl) (rstr_spec c.item _ hs0.2.2.1) ?_))));rintro v_39 w15 ⟨e15,h39⟩;have z15:=e15.size;have h39s:=h39.sl;refine O.appF (G:=byteF) U23 ti5 tz5 ts5 rfl s4_3 rfl (q0_3.L e15) h39s (by rw[tb5];have h91:=Cl.bx_le hs0;omega) (by unfold maxLen;have h91:=Cl.bx_le hs0;omega) (by omega) (λv40 w16 h40 e16=>?_);have e16m:Ext (λj=>wB<=j) w15 w16:=e16.mono (λj _ hj=>((q0_3.L e15).bk_ge j hj).1);have z16:=e16.size;have h40s:=h40.sl;refine O.j (O.o ?_);exact ⟨(Ext.nw (Ext.nw (Ext.L _ _) e15) e16m),rfl,rfl,rfl,⟨_,rfl,(by first|exact (h40).lst (Cl.addB_t c35)|exact (h40).lst (Cl.addB_f c35))⟩⟩
  refine C.skip ?_;exact ⟨(Ext.L _ _),rfl,rfl,rfl,⟨_,s4_3,(by first|exact (q0_3).lst (Cl.addB_t c35)|exact (q0_3).lst (Cl.addB_f c35))⟩⟩
 rintro f_4 w17 ⟨e_4,s1_4,s2_4,s3_4,⟨u4,s4_4,q0_4⟩⟩;have z_4:=e_4.size;refine K10 (C.sq λK12=>C.sr λK13=>O.idxA (i:=4) U84 Z4 (Eq.trans s3_4 (Eq.trans s3_3 (Eq.trans s3_2 s3_1))) rfl (by omega) (O.loadO isAgg4 rfl (((t1.kO e_2).kO e_3).kO e_4) rfl (K13 (C.join (λf w f' w'=>Ext (λj=>wB<=j) w w'∧f' 2=f 2∧∃(u4:Value),f' 4=u4∧OwnF byteF 5 wB w' u4 (Cl.bx5 c)) ?_ ?_))))
 ·
  refine C.cond rfl (λc42=>?_) (λc42=>?_)
  ·
   refine C.region (O.mv (O.fa U25 rfl Z23 (Eq.trans s1_4 (Eq.trans s1_3 (Eq.trans s1_2 s1_1))) (O.loadO isAgg23 rfl ((((((t0.kO e4).L e5).kO e_1).kO e_2).kO e_3).kO e_4) rfl (O.bytesS U23 U5 U9 rfl (hd.L (Ext.new (Ext.new (Ext.new (Ext.new (Ext.T (Ext.nr (Ext.T (Ext.T e1 e2) e3) e4) e5) e_1 (by intro i hi h;(try dsimp only at h);omega)) e_2 (by intro i hi h;(try dsimp only at h);omega)) e_3 (by intro i hi h;(try dsimp only at h);omega)) e_4 (by intro i hi h;(try dsimp only at h);omega))) (O.call call48 (args1 rfl) (rstr_spec c.data _ hs0.2.2.2) ?_)))));rintro v_47 w18 ⟨e18,h47⟩;have z18:=e18.size;have h47s:=h47.sl;refine O.appF (G:=byteF) U23 ti5 tz5 ts5 rfl s4_4 rfl (q0_4.L e18) h47s (by rw[tb5];have h91:=Cl.bx_le hs0;omega) (by unfold maxLen;have h91:=Cl.bx_le hs0;omega) (by omega) (λv48 w19 h48 e19=>?_);have e19m:Ext (λj=>wB<=j) w18 w19:=e19.mono (λj _ hj=>((q0_4.L e18).bk_ge j hj).1);have z19:=e19.size;have h48s:=h48.sl;refine O.j (O.o ?_);exact ⟨(Ext.nw (Ext.nw (Ext.L _ _) e18) e19m),rfl,⟨_,rfl,(by first|exact (h48).lst (Cl.addB_t c42)|exact (h48).lst (Cl.addB_f c42))⟩⟩
  refine C.skip ?_;exact ⟨(Ext.L _ _),rfl,⟨_,s4_4,(by first|exact (q0_4).lst (Cl.addB_t c42)|exact (q0_4).lst (Cl.addB_f c42))⟩⟩
 rintro f_5 w20 ⟨e_5,s2_5,⟨u4,s4_5,q0_5⟩⟩;have z_5:=e_5.size;refine K12 (C.sr λK14=>O.mv (O.j (K14 (C.ret (Outs.one rfl s4_5 ?_)))));exact ⟨(Ext.new (Ext.new (Ext.new (Ext.new (Ext.new (Ext.T (Ext.nr (Ext.T (Ext.T e1 e2) e3) e4) e5) e_1 (by intro i hi h;(try dsimp only at h);omega)) e_2 (by intro i hi h;(try dsimp only at h);omega)) e_3 (by intro i hi h;(try dsimp only at h);omega)) e_4 (by intro i hi h;(try dsimp only at h);omega)) e_5 (by intro i hi h;(try dsimp only at h);omega)),((q0_5).low (by omega)).lst (Cl.bytes_bx (Cl.valid_iff.1 hv).1)⟩
theorem inf28:∃ie,prog.info? 28=some ie∧ie.size=1∧ie.bytes=8∧ie.zero=some (.int .i64 0):=by
 have h:(prog.info? 28).isSome=true:=by kernel_rfl
 exact ⟨(prog.info? 28).get h,(Option.some_get h).symm,by kernel_rfl,by kernel_rfl,by kernel_rfl⟩
theorem maxE_spec (v0:Value)(l:List Int)(F:Nat->Prop)(w:World)(hl:Sl Dt.intF.enc w F v0 l)(hne:l≠[]):
 Ret prog 59 #[v0] w (λv w'=>(∃m,v=.int .i64 m∧(∀q∈l,q<=m)∧m∈l)∧Le w w'):=by
 have hle:=hl.le;have hlp:=List.length_pos_iff.2 hne;refine enT [v0] 25 func59 rfl rfl (C.sr λK1=>O.j (K1 (C.sq λK2=>C.sr λK3=>O.mv (O.len U100 rfl hl (O.lssI rfl rfl (O.cast (v':=.bool false) (cB (by exact dF (by omega))) (K3 (C.condF rfl (C.skip (K2 (C.sr λK4=>O.mv (O.idx U100 Z28 rfl rfl hl rfl (by omega) (λa10 h10=>O.load1F (G:=Dt.intF) isAgg28 rfl rfl rfl h10 (O.j (K4 (C.sq λK5=>C.sr λK6=>O.j (K6 (C.bl λK7=>?_))))))))))))))))));refine C.loop0 (σ:=Nat×Int) (λf0 w0 ⟨k,m⟩ f w=>f 3=.int .i64 (m)∧f 4=.int .i64 ((k:Int))∧f 0=f0 0∧f 2=f0 2∧w=w0∧1<=k∧k<=l.length∧(∀q∈l.take k,q<=m)∧m∈l) (λ⟨k,m⟩=>l.length-k) (1,l[(0:Int).toNat]'(by omega)) ?_ ?_
 ·
  refine ⟨rfl,rfl,rfl,rfl,rfl,?_⟩;exact ⟨by omega,by omega,Cl.max_one hlp,List.getElem_mem _⟩
 rintro ⟨k,m⟩ f_1 wx ⟨s3_1,s4_1,s0_1,s2_1,rfl,⟨hk1,hk,hI,hJ⟩⟩;refine C.sq λK8=>C.sr λK9=>O.mv (O.mv (O.len U100 s0_1 hl (O.lssI s4_1 rfl (K9 (C.condD rfl (λc15=>?_) (λc15=>?_))))))
 ·
  have hk2:k<l.length:=by omega
  refine C.skip (K8 (C.sq λK10=>C.bl λK11=>C.region (O.mv (O.mv (O.mv (O.idx U100 Z28 rfl s0_1 hl s4_1 (by omega) (λa21 h21=>O.load1F (G:=Dt.intF) isAgg28 rfl rfl rfl h21 (O.maxI s3_1 rfl (O.j (O.o (K11 (K10 (C.region (O.mv (O.ad s4_1 rfl (O.j (O.o (⟨(k+1,max m (l[(k:Int).toNat]'(by omega))),⟨rfl,rfl,s0_1,s2_1,rfl,?_⟩,by first|omega|(simp only[];omega)⟩))))))))))))))))));exact ⟨by omega,by omega,Cl.max_next hk2 hI,Cl.max_mem hJ (List.getElem_mem _)⟩
 refine C.exit (K7 (K5 (C.sr λK12=>O.mv (O.j (K12 (C.ret (Outs.one rfl s3_1 ?_)))))));exact ⟨⟨m,rfl,by rw[List.take_of_length_le (by omega)] at hI;exact hI,hJ⟩,leR⟩
theorem rdTake_spec (b:Nat)(vr:Value)(l:List UInt8)(k:Nat)(F:Nat->Prop)(w:World)(ho:Own w b 131 [.bool true,vr,.int .i64 ((k:Int))])(hl:Sl byteE w F vr l)(hk:k<=l.length)(hF:∀j,F j->j≠b∧j<w.heap.size)(hL:l.length<=1000000):
 Ret prog 54 #[.pointer (some ⟨b,0,none⟩),.int .i64 (1)] w (λv w'=>∃(vb:Value) (s:List UInt8) (e:Int) (k':Nat),v=.tuple #[vb,.int .i64 e]∧Own w' b 131 [.bool true,vr,.int .i64 ((k':Int))]∧OwnF byteF 5 w.heap.size w' vb (s)∧((e=0∧1<=l.length-k∧k'=k+1∧s=(l.drop k).take 1)∨(e=4∧l.length-k<1∧k'=k))∧Ext (λj=>j=b) w w'):=by
 have _hF9:=hF;have _hk9:=hk;have hbl:=ho.lt;have hll:=hl.le;refine enT [.pointer (some ⟨b,0,none⟩),.int .i64 (1)] 18 func54 rfl rfl (C.sr λK1=>O.j (O.j (K1 (C.sq λK2=>C.bl λK3=>C.sr λK4=>O.mv (O.call call83 (args1 rfl) (zero_spec b vr l _ F _ ho hl (by omega) (λj hj=>by have q1:=hF j hj;omega)) ?_)))));rintro v_8 w1 ⟨rfl,hw_⟩;replace hw_:=hw_.symm;subst hw_;refine O.j (K4 (C.condF rfl (C.sr λK5=>O.mv (O.lssI rfl rfl (O.cast (v':=.bool false) rfl (O.j (K5 (C.condF rfl (C.skip (K3 (K2 (C.sr λK6=>O.mv (O.mv (O.convIU (m':=64) U3 U76 rfl rfl rfl (O.cast (v':=.int .u64 ((1#64).toNat:Int)) rfl (O.call call84 (args2 rfl rfl) (rtake_spec b vr l k F 1#64 _ ho hl hk (λj hj=>by have q1:=hF j hj;omega) hL) ?_))))))))))))))));rintro v_15 w1 ⟨vbv15,sv15,env15,knv15,rfl,hov15,hbv15,hcv15,e1⟩;have z1:=e1.size;refine O.extract rfl rfl (O.extract rfl rfl (O.j (O.j (K6 (C.ret (Outs.two rfl rfl rfl ?_))))));exact ⟨_,_,_,_,rfl,hov15,(hbv15).low (by omega),hcv15,(Ext.nw (Ext.L _ _) e1)⟩
theorem dtext_spec (most:Int)(b bp be BE:Nat)(vr ve:Value)(l:List UInt8)(k:Nat)(F:Nat->Prop)(es:List Int)(w:World)(hp:Own w bp 97 [.pointer (some ⟨b,0,none⟩)])(he:Own w be 100 [ve])(ho:Own w b 131 [.bool true,vr,.int .i64 ((k:Int))])(hl:Sl byteE w F vr l)(hes:OwnF Dt.intF 28 BE w ve (es))(hk:k<=l.length)(hF:∀j,F j->(j≠b∧j<w.heap.size)∧j≠be∧j<BE)(hb:b<BE∧bp<BE∧be<BE∧BE<=w.heap.size∧b≠bp∧b≠be∧bp≠be)(hL:l.length<=1000000)(hmost:InI most)(hen:es.length<=1000):
 Ret prog 55 #[.int .i64 (most),.pointer (some ⟨bp,0,none⟩),.pointer (some ⟨be,0,none⟩)] w (λv w'=>∃(s:List UInt8) (e:Int) (k':Nat) (ve':Value),v=str s∧Own w' b 131 [.bool true,vr,.int .i64 ((k':Int))]∧Own w' bp 97 [.pointer (some ⟨b,0,none⟩)]∧Own w' be 100 [ve']∧OwnF Dt.intF 28 BE w' ve' (es++[e])∧Sl byteE w' F vr l∧Cl.StrR most l k k' s e∧(∀j,bk ve' j->bk ve j∨w.heap.size<=j)∧Ext (λj=>j=b∨j=be∨bk ve j) w w'):=by
 have hve:∀j,bk ve j->BE<=j∧j<w.heap.size:=hes.bk_ge;obtain ⟨ie28,ti28,ts28,tb28,tz28⟩:=inf28;refine enT [.int .i64 (most),.pointer (some ⟨bp,0,none⟩),.pointer (some ⟨be,0,none⟩)] 18 func55 rfl rfl (C.sr λK1=>O.j (K1 (C.sr λK2=>O.loadO isAgg97 rfl hp rfl (O.mv (O.call call56 (args2 rfl rfl) (rdStr_spec b vr l k F most _ ho hl hk (λj hj=>(hF j hj).1) hL hmost) ?_)))));rintro v_10 w1 ⟨nv10,env10,knv10,rfl,hov10,hcv10,e1⟩;have z1:=e1.size;refine O.mv (O.extract rfl rfl (O.extract rfl rfl (O.j (O.j (K2 (C.sr λK3=>O.loadO isAgg100 rfl (he.kO e1) rfl (O.mv (O.lit1 U100 ti28 ts28 tz28 rfl rfl (λb15 w2 hb15 hz15 e2=>?_)))))))));have z2:=e2.size;have h15:=hz15.own;have hl15:=h15.lt;have h15s:Sl Dt.intF.enc w2 (λk=>k=b15) (.slice (some ⟨b15,0,none⟩) 1 1) [env10]:=Sl.one (G:=Dt.intF) h15 rfl rfl;refine O.appW (G:=Dt.intF) U100 ti28 tz28 ts28 rfl rfl rfl ((hes.kM e1 (by intro j hj h;have q1:=hve j hj;(try dsimp only at h);omega)).L e2) h15s (by rw[tb28];simp only[List.length_cons,List.length_nil];omega) (by unfold maxLen;simp only[List.length_cons,List.length_nil];omega) (by omega) (λv16 w3 h16 e3 hw16=>?_);have z3:=e3.size;have h16s:=h16.sl;refine O.store Z100 rfl rfl h16s.oneC (((he.kO e1).L e2).kM e3 (by intro h;have q1:=hve _ h;(try dsimp only at q1);omega)) (by simp) (λw4 hs4 e4 z4=>?_)
 (try simp only[Int.toNat_natCast] at hs4);(try simp only[Nat.zero_add] at hs4);(try simp only[Nat.mul_one] at hs4)
 refine K3 (C.sr λK4=>O.mv (O.j (K4 (C.ret (Outs.one rfl rfl ?_)))));exact ⟨nv10,env10,knv10,v16,rfl,(((hov10.L e2).kM e3 (by intro h;have q1:=hve _ h;(try dsimp only at q1);omega)).kO e4),((((hp.kO e1).L e2).kM e3 (by intro h;have q1:=hve _ h;(try dsimp only at q1);omega)).kO e4),hs4,(h16.kM e4 (λk hk h=>by have:=h16.bk_ge k hk;(try dsimp only at h);omega)),((((hl.kM e1 (by intro j hj h;have q1:=hF j hj;(try dsimp only at h);omega)).L e2).kM e3 (by intro j hj h;have q1:=hF j hj;have q2:=hve j h;omega)).kM e4 (by intro j hj h;have q1:=hF j hj;(try dsimp only at h);omega)),hcv10,λj hj=>(hw16 j hj).imp id (λq=>by omega),(Ext.new (Ext.new (Ext.new (Ext.new (Ext.L _ _) e1 (by intro i hi hk;first|exact hk.elim|exact .inl hk|exact .inr (.inl hk)|exact .inr (.inr hk))) e2 (by intro i hi hk;first|exact hk.elim|exact .inl hk|exact .inr (.inl hk)|exact .inr (.inr hk))) e3 (by intro i hi hk;first|exact hk.elim|exact .inl hk|exact .inr (.inl hk)|exact .inr (.inr hk))) e4 (by intro i hi hk;first|exact hk.elim|exact .inl hk|exact .inr (.inl hk)|exact .inr (.inr hk)))⟩
theorem decode_spec (v0:Value)(l:List UInt8)(F0:Nat->Prop)(w:World)(h0:Sl byteE w F0 v0 l)(hL:l.length<=1000000)(gw:Gw w):
 Ret prog 22 #[v0] w (λv w'=>∃(c:Cl.Call) (vd:Value) (e:Int),v=.tuple #[.agg #[.int .i64 c.op,str c.key,str c.other,str c.item,.int .i64 c.qty,vd],.int .i64 e]∧Sl byteE w' (λj=>w.heap.size<=j∧j<w'.heap.size) vd c.data∧Cl.BGot l c e∧BytW 5 w' (λj=>w.heap.size<=j∧j<w'.heap.size) vd c.data.length∧Le w w'):=by
 have hrw:=gw.o;obtain ⟨ie28,ti28,ts28,tb28,tz28⟩:=inf28;obtain ⟨ie5,ti5,ts5,tb5,tz5⟩:=inf5;refine enT [v0] 96 func22 rfl rfl (C.sr λK1=>O.alloc zeroValue25 (λb2 w1 hb2 hz2 e1=>?_));have z1:=e1.size;have h2:=hz2.own;have hl2:=h2.lt;refine O.j (K1 (C.sr λK2=>O.mv (O.call call53 (args1 rfl) (rdNew_spec v0 l F0 _ (h0.L e1) hL) ?_)));rintro v_17 w2 ⟨br,vr,rfl,hov17,hlv17,hbv17,hb2v17,e2⟩;have z2:=e2.size;refine O.alloc zeroValue97 (λb4 w3 hb4 hz4 e3=>?_);have z3:=e3.size;have h4:=hz4.own;have hl4:=h4.lt;refine O.store sizeOf97 rfl rfl rfl h4 (by decide) (λw4 hs4 e4 z4=>?_)
 (try simp only[Int.toNat_natCast] at hs4);(try simp only[Nat.zero_add] at hs4);(try simp only[Nat.mul_one] at hs4)
 refine K2 (C.sr λK3=>O.loadO isAgg97 rfl hs4 rfl ?_);have t0:=(hlv17.L e3).kM e4 (by intro j9 hj9 h;(try dsimp only at hj9);(try dsimp only at h);omega);refine O.call call54 (args2 rfl rfl) (rdTake_spec br vr l 0 (λj=>w1.heap.size<=j∧j<br) _ ((hov17.L e3).kO e4) t0 (Nat.zero_le _) (λj hj=>by (try dsimp only at hj);omega) hL) ?_;rintro v_20 w5 ⟨vbv20,sv20,env20,knv20,rfl,hov20,hbv20,hcv20,e5⟩;have z5:=e5.size;have hb20s:=hbv20.sl;refine O.mv (O.extract rfl rfl (O.extract rfl rfl (O.j (O.j (K3 (C.sq λK4=>C.sr λK5=>O.mv (O.neqI rfl rfl (K5 (C.condD rfl (λc24=>?_) (λc24=>?_))))))))))
 ·
  have hl0:l=[]:=List.eq_nil_of_length_eq_zero (by rcases hcv20 with ⟨q,_⟩|⟨_,q,_⟩;exact absurd q c24;omega);refine C.sr λK6=>O.build (cells:=#[.int .i64 0,str [],str [],str [],.int .i64 0,.slice none 0 0]) rfl (by kernel_rfl) (O.storeA (vs:=[.int .i64 0,str [],str [],str [],.int .i64 0,.slice none 0 0]) Z25 rfl rfl rfl (ones6 (by first|rfl|exact hdo9)) ((((h2.L e2).L e3).kO e4).kO e5) (leB rfl) (λw6 hs6 e6 z6=>O.j (K6 (C.ret (Outs.cellA2 rfl isAgg25 Z25 rfl rfl hs6 rfl ?_)))))
  exact ⟨Cl.zeroC,_,_,rfl,Sl.nil _ _ _,Cl.bgot_nil hl0,BytW.nil _ _ _,(Ext.new (Ext.new (Ext.new (Ext.T (Ext.T e1 e2) e3) e4 (by intro i hi h;(try dsimp only at h);omega)) e5 (by intro i hi h;(try dsimp only at h);omega)) e6 (by intro i hi h;(try dsimp only at h);omega))⟩
 have hl1:0<l.length:=by rcases hcv20 with ⟨_,q,_⟩|⟨q,_⟩;omega;exact absurd q (by omega)
 obtain ⟨b0,l9,hl9⟩:∃b r,l=b::r:=by cases l with|nil=>simp at hl1|cons a r=>exact ⟨a,r,rfl⟩
 have sp1_:knv20=1∧sv20=[b0]:=by
  rcases hcv20 with ⟨_,_,q1,q2⟩|⟨q,_⟩
  ·exact ⟨q1,by rw[q2,hl9];rfl⟩
  ·exact absurd q (by omega)
 obtain ⟨hkn9,hsv9⟩:=sp1_;subst hkn9;subst hsv9;refine C.skip (K4 (C.sr λK7=>O.mv (O.idx U23 Z5 rfl rfl hb20s rfl (by simp) (λa27 h27=>O.loadB isAgg5 rfl h27 (O.convUI (m:=8) U5 underlying22 rfl (by decide) (O.build (cells:=#[.int .i64 (b0.toNat:Int),str [],str [],str [],.int .i64 0,.slice none 0 0]) rfl (by kernel_rfl) (O.alloc zeroValue25 (λb7 w7 hb7 hz7 e7=>?_))))))));have z7:=e7.size;have h7:=hz7.own;have hl7:=h7.lt;refine O.storeA (vs:=[.int .i64 (b0.toNat:Int),str [],str [],str [],.int .i64 0,.slice none 0 0]) Z25 rfl rfl rfl (ones6 rfl) h7 (leB rfl) (λw8 hs8 e8 z8=>K7 (C.sr λK8=>O.fa U25 rfl Z22 rfl (O.loadO isAgg22 rfl hs8 rfl ?_)));have t1:=Ext.T (Ext.T e1 e2) e3;have t2:=Ext.new t1 e4 (by intro i hi h;(try dsimp only at h);omega);have t3:=Ext.new t2 e5 (by intro i hi h;(try dsimp only at h);omega);have t4:=Ext.new (Ext.T t3 e7) e8 (by intro i hi h;(try dsimp only at h);omega);refine O.call call40 (args1 rfl) (find_spec _ _ (gw.L t4)) ?_;rintro v_34 w9 ⟨rfl,e9⟩;have z9:=e9.size;refine O.mv (O.extract rfl rfl (O.extract rfl rfl (O.alloc zeroValue72 (λb8 w10 hb8 hz8 e10=>?_))));have z10:=e10.size;have h8:=hz8.own;have hl8:=h8.lt;refine O.storeA (vs:=[str (Cl.word (b0.toNat:Int)),str (Cl.parts (b0.toNat:Int))]) Z72 rfl rfl rfl (by intro u hu;simp only[List.mem_cons,List.not_mem_nil,or_false] at hu;rcases hu with rfl|rfl<;>rfl) h8 (leB rfl) (λw11 hs11 e11 z11=>O.j (K8 (C.sq λK9=>C.sr λK10=>O.mv (O.not rfl (K10 (C.cond rfl (λc38=>?_) (λc38=>?_)))))))
 ·
  refine C.sr λK11=>O.build (cells:=#[.int .i64 0,str [],str [],str [],.int .i64 0,.slice none 0 0]) rfl (by kernel_rfl) (O.storeA (vs:=[.int .i64 0,str [],str [],str [],.int .i64 0,.slice none 0 0]) Z25 rfl rfl rfl (ones6 (by first|rfl|exact hdo9)) (((((((((h2.L e2).L e3).kO e4).kO e5).L e7).kO e8).L e9).L e10).kO e11) (leB rfl) (λw12 hs12 e12 z12=>O.j (K11 (C.ret (Outs.cellA2 rfl isAgg25 Z25 rfl rfl hs12 rfl ?_)))))
  exact ⟨Cl.zeroC,_,_,rfl,Sl.nil _ _ _,Cl.bgot_nop hl9 (by simpa using c38),BytW.nil _ _ _,(Ext.new (Ext.new (Ext.T (Ext.T t4 e9) e10) e11 (by intro i hi h;(try dsimp only at h);omega)) e12 (by intro i hi h;(try dsimp only at h);omega))⟩
 refine C.skip (K9 (C.sr λK12=>O.alloc zeroValue100 (λb10 w13 hb10 hz10 e13=>?_)));have z13:=e13.size;have h10:=hz10.own;have hl10:=h10.lt;have sp2_:∃n,n=w13.heap.size:=⟨_,rfl⟩
 obtain ⟨BE,hBE⟩:=sp2_;refine K12 (C.sr λK13=>O.makeF (v1:=[]) rfl rfl (O.j (K13 (C.sq λK14=>C.sr λK15=>O.fa U72 rfl Z9 rfl (O.loadO isAgg9 rfl (hs11.L e13) rfl (O.rangeS U9 rfl (λb43 w14 hb43 it43 e14=>?_)))))));have z14:=e14.size;have li43:=it43.lt;refine K15 (C.bl λK16=>?_);refine C.loop0 (σ:=Nat×Nat×Cl.Call×Value×Value×List Int) (λf0 w0 ⟨j,pos,c,vd,ve,es⟩ f wz=>f 2=f0 2∧f 3=f0 3∧f 4=f0 4∧f 7=f0 7∧f 10=f0 10∧f 11=f0 11∧f 43=f0 43∧Le w wz∧Own wz b2 25 [.int .i64 0,str [],str [],str [],.int .i64 0,.slice none 0 0]∧Own wz b4 97 [.pointer (some ⟨br,0,none⟩)]∧Own wz b7 25 [.int .i64 c.op,str c.key,str c.other,str c.item,.int .i64 c.qty,vd]∧Own wz br 131 [.bool true,vr,.int .i64 (pos:Int)]∧Own wz b10 100 [ve]∧OwnF Dt.intF 28 BE wz ve es∧ItS wz b43 (Cl.parts (b0.toNat:Int)) j∧Sl byteE wz (λj=>w1.heap.size<=j∧j<br) vr l∧Sl byteE wz (bk vd) vd c.data∧BytW 5 wz (bk vd) vd c.data.length∧Cl.Bd l (b0.toNat:Int) j pos c es∧es.length=j∧BE<=wz.heap.size∧∀q,bk vd q->BE<=q∧q<wz.heap.size∧q≠b43∧¬bk ve q) (λ⟨j,pos,c,vd,ve,es⟩=>(Cl.parts (b0.toNat:Int)).length-j) (0,1,⟨(b0.toNat:Int),[],[],[],0,[]⟩,.slice none 0 0,.slice none 0 0,[]) ?_ ?_
 ·
  refine ⟨rfl,rfl,rfl,rfl,rfl,rfl,rfl,(Ext.T (Ext.T (Ext.new (Ext.T (Ext.T t4 e9) e10) e11 (by intro i hi h;(try dsimp only at h);omega)) e13) e14),(((((((((((h2.L e2).L e3).kO e4).kO e5).L e7).kO e8).L e9).L e10).kO e11).L e13).L e14),((((((((hs4.kO e5).L e7).kO e8).L e9).L e10).kO e11).L e13).L e14),(((((hs8.L e9).L e10).kO e11).L e13).L e14),(((((((hov20.L e7).kO e8).L e9).L e10).kO e11).L e13).L e14),(h10.L e14),(OwnF.nil _ _ _ _),it43,((((((((t0.kM e5 (by intro j9 hj9 h;(try dsimp only at hj9);(try dsimp only at h);omega)).L e7).kM e8 (by intro j9 hj9 h;(try dsimp only at hj9);(try dsimp only at h);omega)).L e9).L e10).kM e11 (by intro j9 hj9 h;(try dsimp only at hj9);(try dsimp only at h);omega)).L e13).L e14),(Sl.nil _ _ _),(BytW.nil _ _ _),?_⟩;exact ⟨Cl.Bd.start hl9,rfl,by omega,λq h=>h.elim⟩
 rintro ⟨j,pos,c,vd,ve,es⟩ f_1 w15 ⟨s2_1,s3_1,s4_1,s7_1,s10_1,s11_1,s43_1,e_1,r0_1,r1_1,r2_1,r3_1,r4_1,r5_1,r6_1,r7_1,r8_1,r9_1,⟨hBd,hel,hBEz,hvd⟩⟩;have z_1:=e_1.size;have r5_1s:=r5_1.sl;have hne:=OwnF.ne_it r5_1 r6_1;have hbe9:=(r5_1).bk_ge;have li9:=(r6_1).lt;have hdo9:=(r8_1).oneC;have hj9:=(r6_1).2;have hpl9:=Cl.pl_le (b0.toNat:Int);refine C.sr λK17=>O.nextS s43_1 r6_1 (Cl.ascii _) (λhq44=>?_) (λw16 hq44 it44 e16 z16=>?_)
 ·
  subst hq44;refine O.extract rfl rfl (K17 (C.sq λK18=>C.condF rfl (C.exit (K16 (K14 (C.sq λK19=>C.drawB (wB:=w) (by kernel_rfl) λw17 e17=>?_))))));have z17:=e17.size;refine D.many [0,1] (by kernel_rfl) (by decide) ⟨?_,?_,trivial⟩
  ·
   refine D.stepU rfl rfl (O.loadO isAgg100 s10_1 (r4_1.L e17) rfl ?_);have t5:=Ext.T e_1 e17;refine O.o ⟨t5,D.on 1 rfl rfl (O.loadO isAgg97 s4_1 (r1_1.L e17) rfl (O.o ⟨t5,D.on 2 rfl rfl (O.call call58 (args1 rfl) (rdEnd_spec br vr l pos (λj=>w1.heap.size<=j∧j<br) _ (r3_1.L e17) (r7_1.L e17) hBd.2.2.2.1 (λj hj=>by (try dsimp only at hj);omega)) ?_)⟩))⟩;rintro v_83 w18 ⟨rfl,e18⟩;have z18:=e18.size;have t6:=Ext.T t5 e18;refine O.o ⟨t6,D.on 3 rfl rfl (O.lit1 U100 ti28 ts28 tz28 rfl rfl (λb84 w19 hb84 hz84 e19=>?_))⟩;have z19:=e19.size;have h84:=hz84.own;have hl84:=h84.lt;have t7:=Ext.T t6 e19;refine O.o ⟨t7,?_⟩;have h84s:Sl Dt.intF.enc w19 (λk=>k=b84) (.slice (some ⟨b84,0,none⟩) 1 1) [if pos<l.length then 12 else 0]:=Sl.one (G:=Dt.intF) h84 rfl rfl;refine D.on 4 rfl rfl (O.appW (G:=Dt.intF) U100 ti28 tz28 ts28 rfl rfl rfl (((r5_1.L e17).L e18).L e19) h84s (by rw[tb28];simp only[List.length_cons,List.length_nil];omega) (by unfold maxLen;simp only[List.length_cons,List.length_nil];omega) (by omega) (λv85 w20 h85 e20 hw85=>?_));have z20:=e20.size;have h85s:=h85.sl;have t8:=Ext.new t7 e20 (by intro i hi h;have q1:=hbe9 i h;omega);refine O.o ⟨t8,D.on 5 rfl rfl (O.store Z100 s10_1 rfl (by first|exact h74s.oneC|exact h85s.oneC) ((((r4_1.L e17).L e18).L e19).kM e20 (by intro h;have q1:=hbe9 _ h;(try dsimp only at q1);omega)) (by simp) (λw21 hs21 e21 z21=>?_))⟩
   (try simp only[Int.toNat_natCast] at hs21);(try simp only[Nat.zero_add] at hs21);(try simp only[Nat.mul_one] at hs21)
   have t9:=Ext.new t8 e21 (by intro i hi h;(try dsimp only at h);omega);refine O.o ⟨t9,D.dn (K19 (C.sq λK20=>C.sr λK21=>O.loadO isAgg100 s10_1 hs21 rfl (O.call call59 (args1 rfl) (maxE_spec v85 (es++[if pos<l.length then 12 else 0]) _ _ (h85s.kM e21 (λk hk h=>by have:=h85.bk_ge k hk;(try dsimp only at h);omega)) (by simp)) ?_)))⟩;rintro v_87 w22 ⟨⟨mv87,rfl,hmv87,hnv87⟩,e22⟩;have z22:=e22.size;refine O.neqI rfl rfl (O.mv (O.splitD (x:=.tmp 89) rfl (λc89=>?_) (λc89=>?_)))
   ·
    refine O.no rfl (noB (isT rfl c89) rfl) (O.no rfl (noB (isT rfl c89) rfl) (O.no rfl (noB (isT rfl c89) rfl) (O.pickT (isT rfl c89) (K21 (C.condT rfl (C.sr λK22=>O.build (cells:=#[.int .i64 0,str [],str [],str [],.int .i64 0,.slice none 0 0]) rfl (by kernel_rfl) (O.storeA (vs:=[.int .i64 0,str [],str [],str [],.int .i64 0,.slice none 0 0]) Z25 rfl s2_1 rfl (ones6 (by first|rfl|exact hdo9)) ((((((r0_1.L e17).L e18).L e19).kM e20 (by intro h;have q1:=hbe9 _ h;(try dsimp only at q1);omega)).kO e21).L e22) (leB rfl) (λw23 hs23 e23 z23=>O.j (K22 (C.ret ?_))))))))));refine Outs.cellA2 rfl isAgg25 Z25 s2_1 rfl hs23 rfl ?_;exact ⟨Cl.zeroC,_,_,rfl,Sl.nil _ _ _,Cl.bgot_bad (hBd.fin rfl) hnv87 (.inl c89),BytW.nil _ _ _,(Ext.new (Ext.T t9 e22) e23 (by intro i hi h;(try dsimp only at h);omega))⟩
   refine O.yes rfl (isF rfl c89) ?_;have t10:=((r2_1.L e17).L e18).L e19;have t11:=t10.kM e20 (by intro h;have q1:=hbe9 _ h;(try dsimp only at q1);omega);refine O.loadOA isAgg25 Z25 s7_1 ((t11.kO e21).L e22) (leB rfl) (O.yes rfl (isF rfl c89) ?_);have t12:=Ext.T t9 e22;have t13:=((r8_1.L e17).L e18).L e19;have t14:=t13.kM e20 (by intro j9 hj9 h;exact (hvd j9 hj9).2.2.2 h);have t15:=t14.kM e21 (by intro j9 hj9 h;have q1:=hvd j9 hj9;(try dsimp only at h);omega);refine O.call call13 (args1 rfl) (valid_spec c vd _ _ (t15.L e22) (Cl.bd_short hBd hL) (gw.L t12)) ?_;rintro v_91 w24 ⟨rfl,e24⟩;have z24:=e24.size;refine O.yes rfl (isF rfl c89) (O.not rfl (O.pickF (isF rfl c89) (K21 (C.cond rfl (λc93=>?_) (λc93=>?_)))))
   ·
    refine C.sr λK23=>O.build (cells:=#[.int .i64 0,str [],str [],str [],.int .i64 0,.slice none 0 0]) rfl (by kernel_rfl) (O.storeA (vs:=[.int .i64 0,str [],str [],str [],.int .i64 0,.slice none 0 0]) Z25 rfl s2_1 rfl (ones6 (by first|rfl|exact hdo9)) (((((((r0_1.L e17).L e18).L e19).kM e20 (by intro h;have q1:=hbe9 _ h;(try dsimp only at q1);omega)).kO e21).L e22).L e24) (leB rfl) (λw25 hs25 e25 z25=>O.j (K23 (C.ret (Outs.cellA2 rfl isAgg25 Z25 s2_1 rfl hs25 rfl ?_)))))
    exact ⟨Cl.zeroC,_,_,rfl,Sl.nil _ _ _,Cl.bgot_bad (hBd.fin rfl) hnv87 (.inr (by simpa using c93)),BytW.nil _ _ _,(Ext.new (Ext.T t12 e24) e25 (by intro i hi h;(try dsimp only at h);omega))⟩
   refine C.skip (K20 (C.sr λK24=>O.loadOA isAgg25 Z25 s7_1 (((t11.kO e21).L e22).L e24) (leB rfl) (O.storeA (vs:=[.int .i64 c.op,str c.key,str c.other,str c.item,.int .i64 c.qty,vd]) Z25 rfl s2_1 rfl (ones6 (by first|rfl|exact hdo9)) (((((((r0_1.L e17).L e18).L e19).kM e20 (by intro h;have q1:=hbe9 _ h;(try dsimp only at q1);omega)).kO e21).L e22).L e24) (leB rfl) (λw26 hs26 e26 z26=>O.j (K24 (C.ret (Outs.cellA2 rfl isAgg25 Z25 s2_1 rfl hs26 rfl ?_)))))));exact ⟨c,vd,_,rfl,((((t15.L e22).L e24).kM e26 (by intro j9 hj9 h;have q1:=hvd j9 hj9;(try dsimp only at h);omega))).fresh (λj9 hj9=>by have:=(hvd j9 hj9).1;omega),Cl.bgot_good (hBd.fin rfl) hmv87 c89 (by simpa using c93) hBd.2.1.2.2.2.2,(((((((((r9_1.L e17).L e18).L e19).kM e20 (by intro j9 hj9 h;exact (hvd j9 hj9).2.2.2 h)).kM e21 (by intro j9 hj9 h;have q1:=hvd j9 hj9;(try dsimp only at h);omega)).L e22).L e24).kM e26 (by intro j9 hj9 h;have q1:=hvd j9 hj9;(try dsimp only at h);omega))).weak (λj9 hj9=>by have q9:=hvd j9 hj9;exact ⟨by omega,by omega⟩),(Ext.new (Ext.T t12 e24) e26 (by intro i hi h;(try dsimp only at h);omega))⟩
  refine D.stepU rfl rfl (O.loadO isAgg97 s4_1 (r1_1.L e17) rfl ?_);have t16:=Ext.T e_1 e17;refine O.o ⟨t16,D.many [0,2] (by kernel_rfl) (by decide) ⟨?_,?_,trivial⟩⟩
  ·
   refine D.stepU rfl rfl (O.loadO isAgg100 s10_1 (r4_1.L e17) rfl (O.o ⟨t16,D.on 2 rfl rfl (O.call call58 (args1 rfl) (rdEnd_spec br vr l pos (λj=>w1.heap.size<=j∧j<br) _ (r3_1.L e17) (r7_1.L e17) hBd.2.2.2.1 (λj hj=>by (try dsimp only at hj);omega)) ?_)⟩));rintro v_83 w27 ⟨rfl,e27⟩;have z27:=e27.size;have t17:=Ext.T t16 e27;refine O.o ⟨t17,D.on 3 rfl rfl (O.lit1 U100 ti28 ts28 tz28 rfl rfl (λb84 w28 hb84 hz84 e28=>?_))⟩;have z28:=e28.size;have h84:=hz84.own;have hl84:=h84.lt;have t18:=Ext.T t17 e28;refine O.o ⟨t18,?_⟩;have h84s:Sl Dt.intF.enc w28 (λk=>k=b84) (.slice (some ⟨b84,0,none⟩) 1 1) [if pos<l.length then 12 else 0]:=Sl.one (G:=Dt.intF) h84 rfl rfl;refine D.on 4 rfl rfl (O.appW (G:=Dt.intF) U100 ti28 tz28 ts28 rfl rfl rfl (((r5_1.L e17).L e27).L e28) h84s (by rw[tb28];simp only[List.length_cons,List.length_nil];omega) (by unfold maxLen;simp only[List.length_cons,List.length_nil];omega) (by omega) (λv85 w29 h85 e29 hw85=>?_));have z29:=e29.size;have h85s:=h85.sl;have t19:=Ext.new t18 e29 (by intro i hi h;have q1:=hbe9 i h;omega);refine O.o ⟨t19,D.on 5 rfl rfl (O.store Z100 s10_1 rfl (by first|exact h74s.oneC|exact h85s.oneC) ((((r4_1.L e17).L e27).L e28).kM e29 (by intro h;have q1:=hbe9 _ h;(try dsimp only at q1);omega)) (by simp) (λw30 hs30 e30 z30=>?_))⟩
   (try simp only[Int.toNat_natCast] at hs30);(try simp only[Nat.zero_add] at hs30);(try simp only[Nat.mul_one] at hs30)
   have t20:=Ext.new t19 e30 (by intro i hi h;(try dsimp only at h);omega);refine O.o ⟨t20,D.dn (K19 (C.sq λK25=>C.sr λK26=>O.loadO isAgg100 s10_1 hs30 rfl (O.call call59 (args1 rfl) (maxE_spec v85 (es++[if pos<l.length then 12 else 0]) _ _ (h85s.kM e30 (λk hk h=>by have:=h85.bk_ge k hk;(try dsimp only at h);omega)) (by simp)) ?_)))⟩;rintro v_87 w31 ⟨⟨mv87,rfl,hmv87,hnv87⟩,e31⟩;have z31:=e31.size;refine O.neqI rfl rfl (O.mv (O.splitD (x:=.tmp 89) rfl (λc89=>?_) (λc89=>?_)))
   ·
    refine O.no rfl (noB (isT rfl c89) rfl) (O.no rfl (noB (isT rfl c89) rfl) (O.no rfl (noB (isT rfl c89) rfl) (O.pickT (isT rfl c89) (K26 (C.condT rfl (C.sr λK27=>O.build (cells:=#[.int .i64 0,str [],str [],str [],.int .i64 0,.slice none 0 0]) rfl (by kernel_rfl) (O.storeA (vs:=[.int .i64 0,str [],str [],str [],.int .i64 0,.slice none 0 0]) Z25 rfl s2_1 rfl (ones6 (by first|rfl|exact hdo9)) ((((((r0_1.L e17).L e27).L e28).kM e29 (by intro h;have q1:=hbe9 _ h;(try dsimp only at q1);omega)).kO e30).L e31) (leB rfl) (λw32 hs32 e32 z32=>O.j (K27 (C.ret ?_))))))))));refine Outs.cellA2 rfl isAgg25 Z25 s2_1 rfl hs32 rfl ?_;exact ⟨Cl.zeroC,_,_,rfl,Sl.nil _ _ _,Cl.bgot_bad (hBd.fin rfl) hnv87 (.inl c89),BytW.nil _ _ _,(Ext.new (Ext.T t20 e31) e32 (by intro i hi h;(try dsimp only at h);omega))⟩
   refine O.yes rfl (isF rfl c89) ?_;have t21:=((r2_1.L e17).L e27).L e28;have t22:=t21.kM e29 (by intro h;have q1:=hbe9 _ h;(try dsimp only at q1);omega);refine O.loadOA isAgg25 Z25 s7_1 ((t22.kO e30).L e31) (leB rfl) (O.yes rfl (isF rfl c89) ?_);have t23:=Ext.T t20 e31;have t24:=((r8_1.L e17).L e27).L e28;have t25:=t24.kM e29 (by intro j9 hj9 h;exact (hvd j9 hj9).2.2.2 h);have t26:=t25.kM e30 (by intro j9 hj9 h;have q1:=hvd j9 hj9;(try dsimp only at h);omega);refine O.call call13 (args1 rfl) (valid_spec c vd _ _ (t26.L e31) (Cl.bd_short hBd hL) (gw.L t23)) ?_;rintro v_91 w33 ⟨rfl,e33⟩;have z33:=e33.size;refine O.yes rfl (isF rfl c89) (O.not rfl (O.pickF (isF rfl c89) (K26 (C.cond rfl (λc93=>?_) (λc93=>?_)))))
   ·
    refine C.sr λK28=>O.build (cells:=#[.int .i64 0,str [],str [],str [],.int .i64 0,.slice none 0 0]) rfl (by kernel_rfl) (O.storeA (vs:=[.int .i64 0,str [],str [],str [],.int .i64 0,.slice none 0 0]) Z25 rfl s2_1 rfl (ones6 (by first|rfl|exact hdo9)) (((((((r0_1.L e17).L e27).L e28).kM e29 (by intro h;have q1:=hbe9 _ h;(try dsimp only at q1);omega)).kO e30).L e31).L e33) (leB rfl) (λw34 hs34 e34 z34=>O.j (K28 (C.ret (Outs.cellA2 rfl isAgg25 Z25 s2_1 rfl hs34 rfl ?_)))))
    exact ⟨Cl.zeroC,_,_,rfl,Sl.nil _ _ _,Cl.bgot_bad (hBd.fin rfl) hnv87 (.inr (by simpa using c93)),BytW.nil _ _ _,(Ext.new (Ext.T t23 e33) e34 (by intro i hi h;(try dsimp only at h);omega))⟩
   refine C.skip (K25 (C.sr λK29=>O.loadOA isAgg25 Z25 s7_1 (((t22.kO e30).L e31).L e33) (leB rfl) (O.storeA (vs:=[.int .i64 c.op,str c.key,str c.other,str c.item,.int .i64 c.qty,vd]) Z25 rfl s2_1 rfl (ones6 (by first|rfl|exact hdo9)) (((((((r0_1.L e17).L e27).L e28).kM e29 (by intro h;have q1:=hbe9 _ h;(try dsimp only at q1);omega)).kO e30).L e31).L e33) (leB rfl) (λw35 hs35 e35 z35=>O.j (K29 (C.ret (Outs.cellA2 rfl isAgg25 Z25 s2_1 rfl hs35 rfl ?_)))))));exact ⟨c,vd,_,rfl,((((t26.L e31).L e33).kM e35 (by intro j9 hj9 h;have q1:=hvd j9 hj9;(try dsimp only at h);omega))).fresh (λj9 hj9=>by have:=(hvd j9 hj9).1;omega),Cl.bgot_good (hBd.fin rfl) hmv87 c89 (by simpa using c93) hBd.2.1.2.2.2.2,(((((((((r9_1.L e17).L e27).L e28).kM e29 (by intro j9 hj9 h;exact (hvd j9 hj9).2.2.2 h)).kM e30 (by intro j9 hj9 h;have q1:=hvd j9 hj9;(try dsimp only at h);omega)).L e31).L e33).kM e35 (by intro j9 hj9 h;have q1:=hvd j9 hj9;(try dsimp only at h);omega))).weak (λj9 hj9=>by have q9:=hvd j9 hj9;exact ⟨by omega,by omega⟩),(Ext.new (Ext.T t23 e33) e35 (by intro i hi h;(try dsimp only at h);omega))⟩
  refine D.stepU rfl rfl (O.call call58 (args1 rfl) (rdEnd_spec br vr l pos (λj=>w1.heap.size<=j∧j<br) _ (r3_1.L e17) (r7_1.L e17) hBd.2.2.2.1 (λj hj=>by (try dsimp only at hj);omega)) ?_);rintro v_83 w36 ⟨rfl,e36⟩;have z36:=e36.size;have t27:=Ext.T t16 e36;refine O.o ⟨t27,D.many [0,3] (by kernel_rfl) (by decide) ⟨?_,?_,trivial⟩⟩
  ·
   refine D.stepU rfl rfl (O.loadO isAgg100 s10_1 ((r4_1.L e17).L e36) rfl (O.o ⟨t27,D.on 3 rfl rfl (O.lit1 U100 ti28 ts28 tz28 rfl rfl (λb84 w37 hb84 hz84 e37=>?_))⟩));have z37:=e37.size;have h84:=hz84.own;have hl84:=h84.lt;have t28:=Ext.T t27 e37;refine O.o ⟨t28,?_⟩;have h84s:Sl Dt.intF.enc w37 (λk=>k=b84) (.slice (some ⟨b84,0,none⟩) 1 1) [if pos<l.length then 12 else 0]:=Sl.one (G:=Dt.intF) h84 rfl rfl;refine D.on 4 rfl rfl (O.appW (G:=Dt.intF) U100 ti28 tz28 ts28 rfl rfl rfl (((r5_1.L e17).L e36).L e37) h84s (by rw[tb28];simp only[List.length_cons,List.length_nil];omega) (by unfold maxLen;simp only[List.length_cons,List.length_nil];omega) (by omega) (λv85 w38 h85 e38 hw85=>?_));have z38:=e38.size;have h85s:=h85.sl;have t29:=Ext.new t28 e38 (by intro i hi h;have q1:=hbe9 i h;omega);refine O.o ⟨t29,D.on 5 rfl rfl (O.store Z100 s10_1 rfl (by first|exact h74s.oneC|exact h85s.oneC) ((((r4_1.L e17).L e36).L e37).kM e38 (by intro h;have q1:=hbe9 _ h;(try dsimp only at q1);omega)) (by simp) (λw39 hs39 e39 z39=>?_))⟩
   (try simp only[Int.toNat_natCast] at hs39);(try simp only[Nat.zero_add] at hs39);(try simp only[Nat.mul_one] at hs39)
   have t30:=Ext.new t29 e39 (by intro i hi h;(try dsimp only at h);omega);refine O.o ⟨t30,D.dn (K19 (C.sq λK30=>C.sr λK31=>O.loadO isAgg100 s10_1 hs39 rfl (O.call call59 (args1 rfl) (maxE_spec v85 (es++[if pos<l.length then 12 else 0]) _ _ (h85s.kM e39 (λk hk h=>by have:=h85.bk_ge k hk;(try dsimp only at h);omega)) (by simp)) ?_)))⟩;rintro v_87 w40 ⟨⟨mv87,rfl,hmv87,hnv87⟩,e40⟩;have z40:=e40.size;refine O.neqI rfl rfl (O.mv (O.splitD (x:=.tmp 89) rfl (λc89=>?_) (λc89=>?_)))
   ·
    refine O.no rfl (noB (isT rfl c89) rfl) (O.no rfl (noB (isT rfl c89) rfl) (O.no rfl (noB (isT rfl c89) rfl) (O.pickT (isT rfl c89) (K31 (C.condT rfl (C.sr λK32=>O.build (cells:=#[.int .i64 0,str [],str [],str [],.int .i64 0,.slice none 0 0]) rfl (by kernel_rfl) (O.storeA (vs:=[.int .i64 0,str [],str [],str [],.int .i64 0,.slice none 0 0]) Z25 rfl s2_1 rfl (ones6 (by first|rfl|exact hdo9)) ((((((r0_1.L e17).L e36).L e37).kM e38 (by intro h;have q1:=hbe9 _ h;(try dsimp only at q1);omega)).kO e39).L e40) (leB rfl) (λw41 hs41 e41 z41=>O.j (K32 (C.ret ?_))))))))));refine Outs.cellA2 rfl isAgg25 Z25 s2_1 rfl hs41 rfl ?_;exact ⟨Cl.zeroC,_,_,rfl,Sl.nil _ _ _,Cl.bgot_bad (hBd.fin rfl) hnv87 (.inl c89),BytW.nil _ _ _,(Ext.new (Ext.T t30 e40) e41 (by intro i hi h;(try dsimp only at h);omega))⟩
   refine O.yes rfl (isF rfl c89) ?_;have t31:=((r2_1.L e17).L e36).L e37;have t32:=t31.kM e38 (by intro h;have q1:=hbe9 _ h;(try dsimp only at q1);omega);refine O.loadOA isAgg25 Z25 s7_1 ((t32.kO e39).L e40) (leB rfl) (O.yes rfl (isF rfl c89) ?_);have t33:=Ext.T t30 e40;have t34:=((r8_1.L e17).L e36).L e37;have t35:=t34.kM e38 (by intro j9 hj9 h;exact (hvd j9 hj9).2.2.2 h);have t36:=t35.kM e39 (by intro j9 hj9 h;have q1:=hvd j9 hj9;(try dsimp only at h);omega);refine O.call call13 (args1 rfl) (valid_spec c vd _ _ (t36.L e40) (Cl.bd_short hBd hL) (gw.L t33)) ?_;rintro v_91 w42 ⟨rfl,e42⟩;have z42:=e42.size;refine O.yes rfl (isF rfl c89) (O.not rfl (O.pickF (isF rfl c89) (K31 (C.cond rfl (λc93=>?_) (λc93=>?_)))))
   ·
    refine C.sr λK33=>O.build (cells:=#[.int .i64 0,str [],str [],str [],.int .i64 0,.slice none 0 0]) rfl (by kernel_rfl) (O.storeA (vs:=[.int .i64 0,str [],str [],str [],.int .i64 0,.slice none 0 0]) Z25 rfl s2_1 rfl (ones6 (by first|rfl|exact hdo9)) (((((((r0_1.L e17).L e36).L e37).kM e38 (by intro h;have q1:=hbe9 _ h;(try dsimp only at q1);omega)).kO e39).L e40).L e42) (leB rfl) (λw43 hs43 e43 z43=>O.j (K33 (C.ret (Outs.cellA2 rfl isAgg25 Z25 s2_1 rfl hs43 rfl ?_)))))
    exact ⟨Cl.zeroC,_,_,rfl,Sl.nil _ _ _,Cl.bgot_bad (hBd.fin rfl) hnv87 (.inr (by simpa using c93)),BytW.nil _ _ _,(Ext.new (Ext.T t33 e42) e43 (by intro i hi h;(try dsimp only at h);omega))⟩
   refine C.skip (K30 (C.sr λK34=>O.loadOA isAgg25 Z25 s7_1 (((t32.kO e39).L e40).L e42) (leB rfl) (O.storeA (vs:=[.int .i64 c.op,str c.key,str c.other,str c.item,.int .i64 c.qty,vd]) Z25 rfl s2_1 rfl (ones6 (by first|rfl|exact hdo9)) (((((((r0_1.L e17).L e36).L e37).kM e38 (by intro h;have q1:=hbe9 _ h;(try dsimp only at q1);omega)).kO e39).L e40).L e42) (leB rfl) (λw44 hs44 e44 z44=>O.j (K34 (C.ret (Outs.cellA2 rfl isAgg25 Z25 s2_1 rfl hs44 rfl ?_)))))));exact ⟨c,vd,_,rfl,((((t36.L e40).L e42).kM e44 (by intro j9 hj9 h;have q1:=hvd j9 hj9;(try dsimp only at h);omega))).fresh (λj9 hj9=>by have:=(hvd j9 hj9).1;omega),Cl.bgot_good (hBd.fin rfl) hmv87 c89 (by simpa using c93) hBd.2.1.2.2.2.2,(((((((((r9_1.L e17).L e36).L e37).kM e38 (by intro j9 hj9 h;exact (hvd j9 hj9).2.2.2 h)).kM e39 (by intro j9 hj9 h;have q1:=hvd j9 hj9;(try dsimp only at h);omega)).L e40).L e42).kM e44 (by intro j9 hj9 h;have q1:=hvd j9 hj9;(try dsimp only at h);omega))).weak (λj9 hj9=>by have q9:=hvd j9 hj9;exact ⟨by omega,by omega⟩),(Ext.new (Ext.T t33 e42) e44 (by intro i hi h;(try dsimp only at h);omega))⟩
  refine D.stepU rfl rfl (O.lit1 U100 ti28 ts28 tz28 rfl rfl (λb84 w45 hb84 hz84 e45=>?_));have z45:=e45.size;have h84:=hz84.own;have hl84:=h84.lt;have t37:=Ext.T t27 e45;refine O.o ⟨t37,?_⟩;have h84s:Sl Dt.intF.enc w45 (λk=>k=b84) (.slice (some ⟨b84,0,none⟩) 1 1) [if pos<l.length then 12 else 0]:=Sl.one (G:=Dt.intF) h84 rfl rfl;refine D.on 0 rfl rfl ?_;have t38:=((r4_1.L e17).L e36).L e45;refine O.loadO isAgg100 s10_1 t38 rfl (O.o ⟨t37,D.on 4 rfl rfl (O.appW (G:=Dt.intF) U100 ti28 tz28 ts28 rfl rfl rfl (((r5_1.L e17).L e36).L e45) h84s (by rw[tb28];simp only[List.length_cons,List.length_nil];omega) (by unfold maxLen;simp only[List.length_cons,List.length_nil];omega) (by omega) (λv85 w46 h85 e46 hw85=>?_))⟩);have z46:=e46.size;have h85s:=h85.sl;have t39:=Ext.new t37 e46 (by intro i hi h;have q1:=hbe9 i h;omega);refine O.o ⟨t39,D.on 5 rfl rfl (O.store Z100 s10_1 rfl (by first|exact h74s.oneC|exact h85s.oneC) (t38.kM e46 (by intro h;have q1:=hbe9 _ h;(try dsimp only at q1);omega)) (by simp) (λw47 hs47 e47 z47=>?_))⟩
  (try simp only[Int.toNat_natCast] at hs47);(try simp only[Nat.zero_add] at hs47);(try simp only[Nat.mul_one] at hs47)
  have t40:=Ext.new t39 e47 (by intro i hi h;(try dsimp only at h);omega);refine O.o ⟨t40,D.dn (K19 (C.sq λK35=>C.sr λK36=>O.loadO isAgg100 s10_1 hs47 rfl (O.call call59 (args1 rfl) (maxE_spec v85 (es++[if pos<l.length then 12 else 0]) _ _ (h85s.kM e47 (λk hk h=>by have:=h85.bk_ge k hk;(try dsimp only at h);omega)) (by simp)) ?_)))⟩;rintro v_87 w48 ⟨⟨mv87,rfl,hmv87,hnv87⟩,e48⟩;have z48:=e48.size;refine O.neqI rfl rfl (O.mv (O.splitD (x:=.tmp 89) rfl (λc89=>?_) (λc89=>?_)))
  ·
   refine O.no rfl (noB (isT rfl c89) rfl) (O.no rfl (noB (isT rfl c89) rfl) (O.no rfl (noB (isT rfl c89) rfl) (O.pickT (isT rfl c89) (K36 (C.condT rfl (C.sr λK37=>O.build (cells:=#[.int .i64 0,str [],str [],str [],.int .i64 0,.slice none 0 0]) rfl (by kernel_rfl) (O.storeA (vs:=[.int .i64 0,str [],str [],str [],.int .i64 0,.slice none 0 0]) Z25 rfl s2_1 rfl (ones6 (by first|rfl|exact hdo9)) ((((((r0_1.L e17).L e36).L e45).kM e46 (by intro h;have q1:=hbe9 _ h;(try dsimp only at q1);omega)).kO e47).L e48) (leB rfl) (λw49 hs49 e49 z49=>O.j (K37 (C.ret ?_))))))))));refine Outs.cellA2 rfl isAgg25 Z25 s2_1 rfl hs49 rfl ?_;exact ⟨Cl.zeroC,_,_,rfl,Sl.nil _ _ _,Cl.bgot_bad (hBd.fin rfl) hnv87 (.inl c89),BytW.nil _ _ _,(Ext.new (Ext.T t40 e48) e49 (by intro i hi h;(try dsimp only at h);omega))⟩
  refine O.yes rfl (isF rfl c89) ?_;have t41:=((r2_1.L e17).L e36).L e45;have t42:=t41.kM e46 (by intro h;have q1:=hbe9 _ h;(try dsimp only at q1);omega);refine O.loadOA isAgg25 Z25 s7_1 ((t42.kO e47).L e48) (leB rfl) (O.yes rfl (isF rfl c89) ?_);have t43:=Ext.T t40 e48;have t44:=((r8_1.L e17).L e36).L e45;have t45:=t44.kM e46 (by intro j9 hj9 h;exact (hvd j9 hj9).2.2.2 h);have t46:=t45.kM e47 (by intro j9 hj9 h;have q1:=hvd j9 hj9;(try dsimp only at h);omega);refine O.call call13 (args1 rfl) (valid_spec c vd _ _ (t46.L e48) (Cl.bd_short hBd hL) (gw.L t43)) ?_;rintro v_91 w50 ⟨rfl,e50⟩;have z50:=e50.size;refine O.yes rfl (isF rfl c89) (O.not rfl (O.pickF (isF rfl c89) (K36 (C.cond rfl (λc93=>?_) (λc93=>?_)))))
  ·
   refine C.sr λK38=>O.build (cells:=#[.int .i64 0,str [],str [],str [],.int .i64 0,.slice none 0 0]) rfl (by kernel_rfl) (O.storeA (vs:=[.int .i64 0,str [],str [],str [],.int .i64 0,.slice none 0 0]) Z25 rfl s2_1 rfl (ones6 (by first|rfl|exact hdo9)) (((((((r0_1.L e17).L e36).L e45).kM e46 (by intro h;have q1:=hbe9 _ h;(try dsimp only at q1);omega)).kO e47).L e48).L e50) (leB rfl) (λw51 hs51 e51 z51=>O.j (K38 (C.ret (Outs.cellA2 rfl isAgg25 Z25 s2_1 rfl hs51 rfl ?_)))))
   exact ⟨Cl.zeroC,_,_,rfl,Sl.nil _ _ _,Cl.bgot_bad (hBd.fin rfl) hnv87 (.inr (by simpa using c93)),BytW.nil _ _ _,(Ext.new (Ext.T t43 e50) e51 (by intro i hi h;(try dsimp only at h);omega))⟩
  refine C.skip (K35 (C.sr λK39=>O.loadOA isAgg25 Z25 s7_1 (((t42.kO e47).L e48).L e50) (leB rfl) (O.storeA (vs:=[.int .i64 c.op,str c.key,str c.other,str c.item,.int .i64 c.qty,vd]) Z25 rfl s2_1 rfl (ones6 (by first|rfl|exact hdo9)) (((((((r0_1.L e17).L e36).L e45).kM e46 (by intro h;have q1:=hbe9 _ h;(try dsimp only at q1);omega)).kO e47).L e48).L e50) (leB rfl) (λw52 hs52 e52 z52=>O.j (K39 (C.ret (Outs.cellA2 rfl isAgg25 Z25 s2_1 rfl hs52 rfl ?_)))))));exact ⟨c,vd,_,rfl,((((t46.L e48).L e50).kM e52 (by intro j9 hj9 h;have q1:=hvd j9 hj9;(try dsimp only at h);omega))).fresh (λj9 hj9=>by have:=(hvd j9 hj9).1;omega),Cl.bgot_good (hBd.fin rfl) hmv87 c89 (by simpa using c93) hBd.2.1.2.2.2.2,(((((((((r9_1.L e17).L e36).L e45).kM e46 (by intro j9 hj9 h;exact (hvd j9 hj9).2.2.2 h)).kM e47 (by intro j9 hj9 h;have q1:=hvd j9 hj9;(try dsimp only at h);omega)).L e48).L e50).kM e52 (by intro j9 hj9 h;have q1:=hvd j9 hj9;(try dsimp only at h);omega))).weak (λj9 hj9=>by have q9:=hvd j9 hj9;exact ⟨by omega,by omega⟩),(Ext.new (Ext.T t43 e50) e52 (by intro i hi h;(try dsimp only at h);omega))⟩
 refine O.extract rfl rfl (K17 (C.sq λK40=>C.condT rfl (C.skip (K40 (C.bl λK41=>C.sr λK42=>O.extract rfl rfl (O.j (K42 (C.sr λK43=>O.mv (K43 (C.bl λK44=>C.sr λK45=>O.eqlK rfl rfl (O.j (K45 (C.condD rfl (λc52=>?_) (λc52=>?_))))))))))))))
 ·
  refine C.region (O.mv (O.callV (vs:=[.int .i64 100]) call55 s11_1 (args1 rfl) (dtext_spec 100 br b4 b10 BE vr ve l pos (λj=>w1.heap.size<=j∧j<br) es _ (r1_1.kO e16) (r4_1.kO e16) (r3_1.kO e16) (r7_1.kM e16 (by intro j9 hj9 h;(try dsimp only at hj9);(try dsimp only at h);omega)) (r5_1.kM e16 (λj9 hj9 h=>hne j9 hj9 h)) hBd.2.2.2.1 (λj hj=>by (try dsimp only at hj);omega) (by omega) hL (by unfold InI;omega) (by omega)) ?_));rintro v_55 w53 ⟨sv55,e9v55,knv55,vev55,rfl,horv55,hopv55,hoev55,hesv55,hlv55,hsv55,hbkv55,e53⟩;have z53:=e53.size;refine O.fa U25 rfl Z9 s7_1 (O.store Z9 rfl rfl rfl ((r2_1.kO e16).kM e53 (by intro h;(try dsimp only at h);rcases h with h|h|h;omega;omega;(have q1:=hbe9 _ h;omega))) (by simp) (λw54 hs54 e54 z54=>?_))
  (try simp only[Int.toNat_natCast] at hs54);(try simp only[Nat.zero_add] at hs54);(try simp only[Nat.mul_one] at hs54)
  refine O.o (K44 (K41 ?_));refine ⟨(j+1,knv55,{c with key:=sv55},vd,vev55,es++[e9v55]),⟨s2_1,s3_1,s4_1,s7_1,s10_1,s11_1,s43_1,(Ext.new (Ext.new (Ext.new e_1 e16 (by intro i hi h;(try dsimp only at h);omega)) e53 (by intro i hi h;(try dsimp only at h);rcases h with h|h|h;omega;omega;(have q1:=hbe9 _ h;omega))) e54 (by intro i hi h;(try dsimp only at h);omega)),(((r0_1.kO e16).kM e53 (by intro h;(try dsimp only at h);rcases h with h|h|h;omega;omega;(have q1:=hbe9 _ h;omega))).kO e54),(hopv55.kO e54),hs54,(horv55.kO e54),(hoev55.kO e54),(hesv55.kM e54 (λk hk h=>by have:=hesv55.bk_ge k hk;(try dsimp only at h);omega)),((it44.kM e53 (by intro h;(try dsimp only at h);rcases h with h|h|h;omega;omega;exact hne _ h rfl)).kO e54),(hlv55.kM e54 (by intro j9 hj9 h;(try dsimp only at hj9);(try dsimp only at h);omega)),(by first|exact {sl:50}|exact (((r8_1.kM e16 (λj9 hj9 h=>(hvd j9 hj9).2.2.1 h)).kM e53 (by intro j9 hj9 h;have q1:=hvd j9 hj9;(try dsimp only at h);rcases h with h|h|h;omega;omega;exact q1.2.2.2 h)).kM e54 (by intro j9 hj9 h;have q1:=hvd j9 hj9;(try dsimp only at h);omega))),(by first|exact BytW.strB {own:50} hc50 hs50|exact (((r9_1.kM e16 (λj9 hj9 h=>(hvd j9 hj9).2.2.1 h)).kM e53 (by intro j9 hj9 h;have q1:=hvd j9 hj9;(try dsimp only at h);rcases h with h|h|h;omega;omega;exact q1.2.2.2 h)).kM e54 (by intro j9 hj9 h;have q1:=hvd j9 hj9;(try dsimp only at h);omega))),?_⟩,by first|omega|(simp only[];omega)⟩;refine ⟨?_,by rw[List.length_append,hel];rfl,by omega,?_⟩
  ·first
   |exact hBd.key hq44 (Cl.u8_eq (n:=107) c52) hsv55
   |exact hBd.other hq44 (Cl.u8_eq (n:=111) c57) hsv60
   |exact hBd.qty hq44 (Cl.u8_eq (n:=113) c62) (Cl.num_r hcv66)
   |exact hBd.item hq44 (Cl.u8_eq (n:=105) c76) hsv79
   |exact hBd.data hq44 (Cl.tag_d hq44 c52 c57 c62 c76) hsv49
  ·first
   |(intro q hq;have q1:=hvd q hq;exact ⟨q1.1,by omega,q1.2.2.1,λh=>by rcases hbkv55 q h with h|h;exact q1.2.2.2 h;omega⟩)
   |(intro q hq;have q1:=hvd q hq;exact ⟨q1.1,by omega,q1.2.2.1,λh=>by rcases hbkv60 q h with h|h;exact q1.2.2.2 h;omega⟩)
   |(intro q hq;have q1:=hvd q hq;exact ⟨q1.1,by omega,q1.2.2.1,λh=>by rcases hw74 q h with h|h;exact q1.2.2.2 h;omega⟩)
   |(intro q hq;have q1:=hvd q hq;exact ⟨q1.1,by omega,q1.2.2.1,λh=>by rcases hbkv79 q h with h|h;exact q1.2.2.2 h;omega⟩)
   |(intro q hq;have h0:q=b50:=hq;exact ⟨by omega,by omega,by omega,λh=>by have q9:=hesv49.bk_ge q h;omega⟩)
 refine C.sr λK46=>O.eqlK rfl rfl (O.j (K46 (C.condD rfl (λc57=>?_) (λc57=>?_))))
 ·
  refine C.region (O.mv (O.callV (vs:=[.int .i64 100]) call55 s11_1 (args1 rfl) (dtext_spec 100 br b4 b10 BE vr ve l pos (λj=>w1.heap.size<=j∧j<br) es _ (r1_1.kO e16) (r4_1.kO e16) (r3_1.kO e16) (r7_1.kM e16 (by intro j9 hj9 h;(try dsimp only at hj9);(try dsimp only at h);omega)) (r5_1.kM e16 (λj9 hj9 h=>hne j9 hj9 h)) hBd.2.2.2.1 (λj hj=>by (try dsimp only at hj);omega) (by omega) hL (by unfold InI;omega) (by omega)) ?_));rintro v_60 w55 ⟨sv60,e9v60,knv60,vev60,rfl,horv60,hopv60,hoev60,hesv60,hlv60,hsv60,hbkv60,e55⟩;have z55:=e55.size;refine O.fa U25 rfl Z9 s7_1 (O.store Z9 rfl rfl rfl ((r2_1.kO e16).kM e55 (by intro h;(try dsimp only at h);rcases h with h|h|h;omega;omega;(have q1:=hbe9 _ h;omega))) (by simp) (λw56 hs56 e56 z56=>?_))
  (try simp only[Int.toNat_natCast] at hs56);(try simp only[Nat.zero_add] at hs56);(try simp only[Nat.mul_one] at hs56)
  refine O.o (K44 (K41 ?_));refine ⟨(j+1,knv60,{c with other:=sv60},vd,vev60,es++[e9v60]),⟨s2_1,s3_1,s4_1,s7_1,s10_1,s11_1,s43_1,(Ext.new (Ext.new (Ext.new e_1 e16 (by intro i hi h;(try dsimp only at h);omega)) e55 (by intro i hi h;(try dsimp only at h);rcases h with h|h|h;omega;omega;(have q1:=hbe9 _ h;omega))) e56 (by intro i hi h;(try dsimp only at h);omega)),(((r0_1.kO e16).kM e55 (by intro h;(try dsimp only at h);rcases h with h|h|h;omega;omega;(have q1:=hbe9 _ h;omega))).kO e56),(hopv60.kO e56),hs56,(horv60.kO e56),(hoev60.kO e56),(hesv60.kM e56 (λk hk h=>by have:=hesv60.bk_ge k hk;(try dsimp only at h);omega)),((it44.kM e55 (by intro h;(try dsimp only at h);rcases h with h|h|h;omega;omega;exact hne _ h rfl)).kO e56),(hlv60.kM e56 (by intro j9 hj9 h;(try dsimp only at hj9);(try dsimp only at h);omega)),(by first|exact {sl:50}|exact (((r8_1.kM e16 (λj9 hj9 h=>(hvd j9 hj9).2.2.1 h)).kM e55 (by intro j9 hj9 h;have q1:=hvd j9 hj9;(try dsimp only at h);rcases h with h|h|h;omega;omega;exact q1.2.2.2 h)).kM e56 (by intro j9 hj9 h;have q1:=hvd j9 hj9;(try dsimp only at h);omega))),(by first|exact BytW.strB {own:50} hc50 hs50|exact (((r9_1.kM e16 (λj9 hj9 h=>(hvd j9 hj9).2.2.1 h)).kM e55 (by intro j9 hj9 h;have q1:=hvd j9 hj9;(try dsimp only at h);rcases h with h|h|h;omega;omega;exact q1.2.2.2 h)).kM e56 (by intro j9 hj9 h;have q1:=hvd j9 hj9;(try dsimp only at h);omega))),?_⟩,by first|omega|(simp only[];omega)⟩;refine ⟨?_,by rw[List.length_append,hel];rfl,by omega,?_⟩
  ·first
   |exact hBd.key hq44 (Cl.u8_eq (n:=107) c52) hsv55
   |exact hBd.other hq44 (Cl.u8_eq (n:=111) c57) hsv60
   |exact hBd.qty hq44 (Cl.u8_eq (n:=113) c62) (Cl.num_r hcv66)
   |exact hBd.item hq44 (Cl.u8_eq (n:=105) c76) hsv79
   |exact hBd.data hq44 (Cl.tag_d hq44 c52 c57 c62 c76) hsv49
  ·first
   |(intro q hq;have q1:=hvd q hq;exact ⟨q1.1,by omega,q1.2.2.1,λh=>by rcases hbkv55 q h with h|h;exact q1.2.2.2 h;omega⟩)
   |(intro q hq;have q1:=hvd q hq;exact ⟨q1.1,by omega,q1.2.2.1,λh=>by rcases hbkv60 q h with h|h;exact q1.2.2.2 h;omega⟩)
   |(intro q hq;have q1:=hvd q hq;exact ⟨q1.1,by omega,q1.2.2.1,λh=>by rcases hw74 q h with h|h;exact q1.2.2.2 h;omega⟩)
   |(intro q hq;have q1:=hvd q hq;exact ⟨q1.1,by omega,q1.2.2.1,λh=>by rcases hbkv79 q h with h|h;exact q1.2.2.2 h;omega⟩)
   |(intro q hq;have h0:q=b50:=hq;exact ⟨by omega,by omega,by omega,λh=>by have q9:=hesv49.bk_ge q h;omega⟩)
 refine C.sr λK47=>O.eqlK rfl rfl (O.j (K47 (C.condD rfl (λc62=>?_) (λc62=>?_))))
 ·
  refine C.sr λK48=>O.loadO isAgg97 s4_1 (r1_1.kO e16) rfl ?_
  have t47:=r7_1.kM e16 (by intro j9 hj9 h;(try dsimp only at hj9);(try dsimp only at h);omega);refine O.call call57 (args2 rfl rfl) (rdNum_spec br vr l pos (λj=>w1.heap.size<=j∧j<br) 18446744073709551615#64 _ (r3_1.kO e16) t47 hBd.2.2.2.1 (λj hj=>by (try dsimp only at hj);omega) hL) ?_;rintro v_66 w57 ⟨nv66,env66,knv66,rfl,hov66,hcv66,e57⟩;have z57:=e57.size;refine O.mv (O.extract rfl rfl (O.extract rfl rfl (O.j (O.j (K48 (C.region (O.mv (O.convU64I U76 U3 rfl (O.loadO isAgg100 s10_1 ((r4_1.kO e16).kO e57) rfl (O.mv (O.lit1 U100 ti28 ts28 tz28 rfl rfl (λb73 w58 hb73 hz73 e58=>?_))))))))))));have z58:=e58.size;have h73:=hz73.own;have hl73:=h73.lt;have h73s:Sl Dt.intF.enc w58 (λk=>k=b73) (.slice (some ⟨b73,0,none⟩) 1 1) [env66]:=Sl.one (G:=Dt.intF) h73 rfl rfl;refine O.appW (G:=Dt.intF) U100 ti28 tz28 ts28 rfl rfl rfl (((r5_1.kM e16 (λj9 hj9 h=>hne j9 hj9 h)).kM e57 (λk hk h=>by have:=r5_1.bk_ge k hk;(try dsimp only at h);omega)).L e58) h73s (by rw[tb28];simp only[List.length_cons,List.length_nil];omega) (by unfold maxLen;simp only[List.length_cons,List.length_nil];omega) (by omega) (λv74 w59 h74 e59 hw74=>?_);have z59:=e59.size;have h74s:=h74.sl;refine O.fa U25 rfl Z3 s7_1 (O.store Z3 rfl rfl rfl ((((r2_1.kO e16).kO e57).L e58).kM e59 (by intro h;have q1:=hbe9 _ h;(try dsimp only at q1);omega)) (by simp) (λw60 hs60 e60 z60=>?_))
  (try simp only[Int.toNat_natCast] at hs60);(try simp only[Nat.zero_add] at hs60);(try simp only[Nat.mul_one] at hs60)
  refine O.store Z100 s10_1 rfl (by first|exact h74s.oneC|exact h85s.oneC) (((((r4_1.kO e16).kO e57).L e58).kM e59 (by intro h;have q1:=hbe9 _ h;(try dsimp only at q1);omega)).kO e60) (by simp) (λw61 hs61 e61 z61=>?_)
  (try simp only[Int.toNat_natCast] at hs61);(try simp only[Nat.zero_add] at hs61);(try simp only[Nat.mul_one] at hs61)
  refine O.o (K44 (K41 ?_));refine ⟨(j+1,knv66,{c with qty:=nv66.toInt},vd,v74,es++[env66]),⟨s2_1,s3_1,s4_1,s7_1,s10_1,s11_1,s43_1,(Ext.new (Ext.new (Ext.new (Ext.T (Ext.new (Ext.new e_1 e16 (by intro i hi h;(try dsimp only at h);omega)) e57 (by intro i hi h;(try dsimp only at h);omega)) e58) e59 (by intro i hi h;have q1:=hbe9 i h;omega)) e60 (by intro i hi h;(try dsimp only at h);omega)) e61 (by intro i hi h;(try dsimp only at h);omega)),((((((r0_1.kO e16).kO e57).L e58).kM e59 (by intro h;have q1:=hbe9 _ h;(try dsimp only at q1);omega)).kO e60).kO e61),((((((r1_1.kO e16).kO e57).L e58).kM e59 (by intro h;have q1:=hbe9 _ h;(try dsimp only at q1);omega)).kO e60).kO e61),(hs60.kO e61),((((hov66.L e58).kM e59 (by intro h;have q1:=hbe9 _ h;(try dsimp only at q1);omega)).kO e60).kO e61),hs61,((h74.kM e60 (λk hk h=>by have:=h74.bk_ge k hk;(try dsimp only at h);omega)).kM e61 (λk hk h=>by have:=h74.bk_ge k hk;(try dsimp only at h);omega)),(((((it44.kO e57).L e58).kM e59 (by intro h;exact hne _ h rfl)).kO e60).kO e61),(((((t47.kM e57 (by intro j9 hj9 h;(try dsimp only at hj9);(try dsimp only at h);omega)).L e58).kM e59 (by intro j9 hj9 h;have q1:=hbe9 _ h;(try dsimp only at hj9);omega)).kM e60 (by intro j9 hj9 h;(try dsimp only at hj9);(try dsimp only at h);omega)).kM e61 (by intro j9 hj9 h;(try dsimp only at hj9);(try dsimp only at h);omega)),(by first|exact {sl:50}|exact ((((((r8_1.kM e16 (λj9 hj9 h=>(hvd j9 hj9).2.2.1 h)).kM e57 (by intro j9 hj9 h;have q1:=hvd j9 hj9;(try dsimp only at h);omega)).L e58).kM e59 (by intro j9 hj9 h;exact (hvd j9 hj9).2.2.2 h)).kM e60 (by intro j9 hj9 h;have q1:=hvd j9 hj9;(try dsimp only at h);omega)).kM e61 (by intro j9 hj9 h;have q1:=hvd j9 hj9;(try dsimp only at h);omega))),(by first|exact BytW.strB {own:50} hc50 hs50|exact ((((((r9_1.kM e16 (λj9 hj9 h=>(hvd j9 hj9).2.2.1 h)).kM e57 (by intro j9 hj9 h;have q1:=hvd j9 hj9;(try dsimp only at h);omega)).L e58).kM e59 (by intro j9 hj9 h;exact (hvd j9 hj9).2.2.2 h)).kM e60 (by intro j9 hj9 h;have q1:=hvd j9 hj9;(try dsimp only at h);omega)).kM e61 (by intro j9 hj9 h;have q1:=hvd j9 hj9;(try dsimp only at h);omega))),?_⟩,by first|omega|(simp only[];omega)⟩;refine ⟨?_,by rw[List.length_append,hel];rfl,by omega,?_⟩
  ·first
   |exact hBd.key hq44 (Cl.u8_eq (n:=107) c52) hsv55
   |exact hBd.other hq44 (Cl.u8_eq (n:=111) c57) hsv60
   |exact hBd.qty hq44 (Cl.u8_eq (n:=113) c62) (Cl.num_r hcv66)
   |exact hBd.item hq44 (Cl.u8_eq (n:=105) c76) hsv79
   |exact hBd.data hq44 (Cl.tag_d hq44 c52 c57 c62 c76) hsv49
  ·first
   |(intro q hq;have q1:=hvd q hq;exact ⟨q1.1,by omega,q1.2.2.1,λh=>by rcases hbkv55 q h with h|h;exact q1.2.2.2 h;omega⟩)
   |(intro q hq;have q1:=hvd q hq;exact ⟨q1.1,by omega,q1.2.2.1,λh=>by rcases hbkv60 q h with h|h;exact q1.2.2.2 h;omega⟩)
   |(intro q hq;have q1:=hvd q hq;exact ⟨q1.1,by omega,q1.2.2.1,λh=>by rcases hw74 q h with h|h;exact q1.2.2.2 h;omega⟩)
   |(intro q hq;have q1:=hvd q hq;exact ⟨q1.1,by omega,q1.2.2.1,λh=>by rcases hbkv79 q h with h|h;exact q1.2.2.2 h;omega⟩)
   |(intro q hq;have h0:q=b50:=hq;exact ⟨by omega,by omega,by omega,λh=>by have q9:=hesv49.bk_ge q h;omega⟩)
 refine C.sr λK49=>O.eqlK rfl rfl (O.j (K49 (C.condD rfl (λc76=>?_) (λc76=>?_))))
 ·
  refine C.region (O.mv (O.callV (vs:=[.int .i64 100]) call55 s11_1 (args1 rfl) (dtext_spec 100 br b4 b10 BE vr ve l pos (λj=>w1.heap.size<=j∧j<br) es _ (r1_1.kO e16) (r4_1.kO e16) (r3_1.kO e16) (r7_1.kM e16 (by intro j9 hj9 h;(try dsimp only at hj9);(try dsimp only at h);omega)) (r5_1.kM e16 (λj9 hj9 h=>hne j9 hj9 h)) hBd.2.2.2.1 (λj hj=>by (try dsimp only at hj);omega) (by omega) hL (by unfold InI;omega) (by omega)) ?_));rintro v_79 w62 ⟨sv79,e9v79,knv79,vev79,rfl,horv79,hopv79,hoev79,hesv79,hlv79,hsv79,hbkv79,e62⟩;have z62:=e62.size;refine O.fa U25 rfl Z9 s7_1 (O.store Z9 rfl rfl rfl ((r2_1.kO e16).kM e62 (by intro h;(try dsimp only at h);rcases h with h|h|h;omega;omega;(have q1:=hbe9 _ h;omega))) (by simp) (λw63 hs63 e63 z63=>?_))
  (try simp only[Int.toNat_natCast] at hs63);(try simp only[Nat.zero_add] at hs63);(try simp only[Nat.mul_one] at hs63)
  refine O.o (K44 (K41 ?_));refine ⟨(j+1,knv79,{c with item:=sv79},vd,vev79,es++[e9v79]),⟨s2_1,s3_1,s4_1,s7_1,s10_1,s11_1,s43_1,(Ext.new (Ext.new (Ext.new e_1 e16 (by intro i hi h;(try dsimp only at h);omega)) e62 (by intro i hi h;(try dsimp only at h);rcases h with h|h|h;omega;omega;(have q1:=hbe9 _ h;omega))) e63 (by intro i hi h;(try dsimp only at h);omega)),(((r0_1.kO e16).kM e62 (by intro h;(try dsimp only at h);rcases h with h|h|h;omega;omega;(have q1:=hbe9 _ h;omega))).kO e63),(hopv79.kO e63),hs63,(horv79.kO e63),(hoev79.kO e63),(hesv79.kM e63 (λk hk h=>by have:=hesv79.bk_ge k hk;(try dsimp only at h);omega)),((it44.kM e62 (by intro h;(try dsimp only at h);rcases h with h|h|h;omega;omega;exact hne _ h rfl)).kO e63),(hlv79.kM e63 (by intro j9 hj9 h;(try dsimp only at hj9);(try dsimp only at h);omega)),(by first|exact {sl:50}|exact (((r8_1.kM e16 (λj9 hj9 h=>(hvd j9 hj9).2.2.1 h)).kM e62 (by intro j9 hj9 h;have q1:=hvd j9 hj9;(try dsimp only at h);rcases h with h|h|h;omega;omega;exact q1.2.2.2 h)).kM e63 (by intro j9 hj9 h;have q1:=hvd j9 hj9;(try dsimp only at h);omega))),(by first|exact BytW.strB {own:50} hc50 hs50|exact (((r9_1.kM e16 (λj9 hj9 h=>(hvd j9 hj9).2.2.1 h)).kM e62 (by intro j9 hj9 h;have q1:=hvd j9 hj9;(try dsimp only at h);rcases h with h|h|h;omega;omega;exact q1.2.2.2 h)).kM e63 (by intro j9 hj9 h;have q1:=hvd j9 hj9;(try dsimp only at h);omega))),?_⟩,by first|omega|(simp only[];omega)⟩;refine ⟨?_,by rw[List.length_append,hel];rfl,by omega,?_⟩
  ·first
   |exact hBd.key hq44 (Cl.u8_eq (n:=107) c52) hsv55
   |exact hBd.other hq44 (Cl.u8_eq (n:=111) c57) hsv60
   |exact hBd.qty hq44 (Cl.u8_eq (n:=113) c62) (Cl.num_r hcv66)
   |exact hBd.item hq44 (Cl.u8_eq (n:=105) c76) hsv79
   |exact hBd.data hq44 (Cl.tag_d hq44 c52 c57 c62 c76) hsv49
  ·first
   |(intro q hq;have q1:=hvd q hq;exact ⟨q1.1,by omega,q1.2.2.1,λh=>by rcases hbkv55 q h with h|h;exact q1.2.2.2 h;omega⟩)
   |(intro q hq;have q1:=hvd q hq;exact ⟨q1.1,by omega,q1.2.2.1,λh=>by rcases hbkv60 q h with h|h;exact q1.2.2.2 h;omega⟩)
   |(intro q hq;have q1:=hvd q hq;exact ⟨q1.1,by omega,q1.2.2.1,λh=>by rcases hw74 q h with h|h;exact q1.2.2.2 h;omega⟩)
   |(intro q hq;have q1:=hvd q hq;exact ⟨q1.1,by omega,q1.2.2.1,λh=>by rcases hbkv79 q h with h|h;exact q1.2.2.2 h;omega⟩)
   |(intro q hq;have h0:q=b50:=hq;exact ⟨by omega,by omega,by omega,λh=>by have q9:=hesv49.bk_ge q h;omega⟩)
 refine C.region (O.mv (O.callV (vs:=[.int .i64 65536]) call55 s11_1 (args1 rfl) (dtext_spec 65536 br b4 b10 BE vr ve l pos (λj=>w1.heap.size<=j∧j<br) es _ (r1_1.kO e16) (r4_1.kO e16) (r3_1.kO e16) (r7_1.kM e16 (by intro j9 hj9 h;(try dsimp only at hj9);(try dsimp only at h);omega)) (r5_1.kM e16 (λj9 hj9 h=>hne j9 hj9 h)) hBd.2.2.2.1 (λj hj=>by (try dsimp only at hj);omega) (by omega) hL (by unfold InI;omega) (by omega)) ?_));rintro v_49 w64 ⟨sv49,e9v49,knv49,vev49,rfl,horv49,hopv49,hoev49,hesv49,hlv49,hsv49,hbkv49,e64⟩;have z64:=e64.size;refine O.strB U9 U23 U5 rfl (by have:=Cl.StrR.le hsv49;unfold maxLen;omega) (λb50 cap50 w65 hb50 hc50 h50 hs50 e65=>?_);have z65:=e65.size;have hl50:=h50.lt;refine O.fa U25 rfl Z23 s7_1 (O.store Z23 rfl rfl rfl (((r2_1.kO e16).kM e64 (by intro h;(try dsimp only at h);rcases h with h|h|h;omega;omega;(have q1:=hbe9 _ h;omega))).L e65) (by simp) (λw66 hs66 e66 z66=>?_))
 (try simp only[Int.toNat_natCast] at hs66);(try simp only[Nat.zero_add] at hs66);(try simp only[Nat.mul_one] at hs66)
 refine O.o (K44 (K41 ?_));refine ⟨(j+1,knv49,{c with data:=sv49},.slice (some ⟨b50,0,none⟩) sv49.length cap50,vev49,es++[e9v49]),⟨s2_1,s3_1,s4_1,s7_1,s10_1,s11_1,s43_1,(Ext.new (Ext.T (Ext.new (Ext.new e_1 e16 (by intro i hi h;(try dsimp only at h);omega)) e64 (by intro i hi h;(try dsimp only at h);rcases h with h|h|h;omega;omega;(have q1:=hbe9 _ h;omega))) e65) e66 (by intro i hi h;(try dsimp only at h);omega)),((((r0_1.kO e16).kM e64 (by intro h;(try dsimp only at h);rcases h with h|h|h;omega;omega;(have q1:=hbe9 _ h;omega))).L e65).kO e66),((hopv49.L e65).kO e66),hs66,((horv49.L e65).kO e66),((hoev49.L e65).kO e66),((hesv49.L e65).kM e66 (λk hk h=>by have:=hesv49.bk_ge k hk;(try dsimp only at h);omega)),(((it44.kM e64 (by intro h;(try dsimp only at h);rcases h with h|h|h;omega;omega;exact hne _ h rfl)).L e65).kO e66),((hlv49.L e65).kM e66 (by intro j9 hj9 h;(try dsimp only at hj9);(try dsimp only at h);omega)),(by first|exact (hs50.kM e66 (by intro k hk h;(try dsimp only at hk);(try dsimp only at h);omega))|exact ((((r8_1.kM e16 (λj9 hj9 h=>(hvd j9 hj9).2.2.1 h)).kM e64 (by intro j9 hj9 h;have q1:=hvd j9 hj9;(try dsimp only at h);rcases h with h|h|h;omega;omega;exact q1.2.2.2 h)).L e65).kM e66 (by intro j9 hj9 h;have q1:=hvd j9 hj9;(try dsimp only at h);omega))),(by first|exact BytW.strB (h50.kO e66) hc50 hs50|exact ((((r9_1.kM e16 (λj9 hj9 h=>(hvd j9 hj9).2.2.1 h)).kM e64 (by intro j9 hj9 h;have q1:=hvd j9 hj9;(try dsimp only at h);rcases h with h|h|h;omega;omega;exact q1.2.2.2 h)).L e65).kM e66 (by intro j9 hj9 h;have q1:=hvd j9 hj9;(try dsimp only at h);omega))),?_⟩,by first|omega|(simp only[];omega)⟩;refine ⟨?_,by rw[List.length_append,hel];rfl,by omega,?_⟩
 ·first
  |exact hBd.key hq44 (Cl.u8_eq (n:=107) c52) hsv55
  |exact hBd.other hq44 (Cl.u8_eq (n:=111) c57) hsv60
  |exact hBd.qty hq44 (Cl.u8_eq (n:=113) c62) (Cl.num_r hcv66)
  |exact hBd.item hq44 (Cl.u8_eq (n:=105) c76) hsv79
  |exact hBd.data hq44 (Cl.tag_d hq44 c52 c57 c62 c76) hsv49
 ·first
  |(intro q hq;have q1:=hvd q hq;exact ⟨q1.1,by omega,q1.2.2.1,λh=>by rcases hbkv55 q h with h|h;exact q1.2.2.2 h;omega⟩)
  |(intro q hq;have q1:=hvd q hq;exact ⟨q1.1,by omega,q1.2.2.1,λh=>by rcases hbkv60 q h with h|h;exact q1.2.2.2 h;omega⟩)
  |(intro q hq;have q1:=hvd q hq;exact ⟨q1.1,by omega,q1.2.2.1,λh=>by rcases hw74 q h with h|h;exact q1.2.2.2 h;omega⟩)
  |(intro q hq;have q1:=hvd q hq;exact ⟨q1.1,by omega,q1.2.2.1,λh=>by rcases hbkv79 q h with h|h;exact q1.2.2.2 h;omega⟩)
  |(intro q hq;have h0:q=b50:=hq;exact ⟨by omega,by omega,by omega,λh=>by have q9:=hesv49.bk_ge q h;omega⟩)
theorem ones5 {a b c:Int}{u v:Value}(h1:u.oneCell'=true)(h2:v.oneCell'=true):∀x∈([.int .i64 a,.int .i64 b,.int .i64 c,u,v]:List Value),x.oneCell'=true:=by
 intro x hx;simp only[List.mem_cons,List.not_mem_nil,or_false] at hx;rcases hx with rfl|rfl|rfl|rfl|rfl<;>first|rfl|exact h1|exact h2
theorem saidL_spec (x:Cl.Line)(w:World)(hs:x.1.length<=1000000):
 Ret prog 94 #[.agg #[str x.1,.int .i64 x.2]] w (λv w'=>v=.bool (Cl.lineBad x)∧Le w w'):=by
 refine enT [.agg #[str x.1,.int .i64 x.2]] 12 func94 rfl rfl (C.sr λK1=>O.box (v:=.agg #[str x.1,.int .i64 x.2]) rfl (λb1 w1 hb1 hz1 e1=>?_));have z1:=e1.size;have h1:=hz1.own;have hl1:=h1.lt;refine O.j (K1 (C.sr λK2=>O.fa U59 rfl Z3 rfl (O.loadO isAgg3 rfl h1 rfl (O.lssI rfl rfl (O.mv (O.splitD (x:=.tmp 6) rfl (λc6=>?_) (λc6=>?_)))))))
 ·
  refine O.no rfl (noB (isT rfl c6) rfl) (O.no rfl (noB (isT rfl c6) rfl) (O.no rfl (noB (isT rfl c6) rfl) (O.no rfl (noB (isT rfl c6) rfl) (O.pickT (isT rfl c6) (O.j (K2 (C.ret (Outs.one rfl rfl ?_))))))));exact ⟨cB (by unfold Cl.lineBad;first|(rw[decide_eq_true c6];rfl)|(rw[decide_eq_false c6];rfl)),e1⟩
 refine O.yes rfl (isF rfl c6) (O.fa U59 rfl Z9 rfl (O.yes rfl (isF rfl c6) (O.loadO isAgg9 rfl h1 rfl (O.yes rfl (isF rfl c6) (O.call call41 (args2 rfl rfl) (between_spec x.1 32#8 _ hs) ?_)))));rintro v_9 w2 ⟨rfl,e2⟩;have z2:=e2.size;refine O.yes rfl (isF rfl c6) (O.not rfl (O.pickF (isF rfl c6) (O.j (K2 (C.ret (Outs.one rfl rfl ?_))))));exact ⟨cB (by unfold Cl.lineBad;first|(rw[decide_eq_true c6];rfl)|(rw[decide_eq_false c6];rfl)),(Ext.T e1 e2)⟩
theorem saidB_spec (r:Raw)(w:World):
 Ret prog 96 #[slv r] w (λv w'=>v=.bool (Cl.lenBad r.2.1)∧Le w w'):=by
 refine enT [slv r] 11 func96 rfl rfl (C.sr λK1=>O.j (K1 (C.sr λK2=>O.mv (O.lenL U23 rfl (O.lssI rfl rfl (O.mv (O.splitD (x:=.tmp 6) rfl (λc6=>?_) (λc6=>?_))))))))
 ·
  refine O.no rfl (noB (isT rfl c6) rfl) (O.no rfl (noB (isT rfl c6) rfl) (O.no rfl (noB (isT rfl c6) rfl) (O.pickT (isT rfl c6) (O.j (K2 (C.ret (Outs.one rfl rfl ?_)))))));exact ⟨cB (by unfold Cl.lenBad;first|(rw[decide_eq_true c6];rfl)|(rw[decide_eq_false c6];rfl)),leR⟩
 refine O.yes rfl (isF rfl c6) (O.mv (O.yes rfl (isF rfl c6) (O.lenL U23 rfl (O.yes rfl (isF rfl c6) (O.gtrI rfl rfl (O.pickF (isF rfl c6) (O.j (K2 (C.ret (Outs.one rfl rfl ?_))))))))));exact ⟨cB (by unfold Cl.lenBad;first|(rw[decide_eq_true c6];rfl)|(rw[decide_eq_false c6];rfl)),leR⟩
theorem indexL_spec (v0:Value)(l:List Cl.Line)(F:Nat->Prop)(w:World)(hl:Sl lineF.enc w F v0 l)(hs:∀x∈l,x.1.length<=1000000):
 Ret prog 111 #[v0,.func (.func 94) #[] #[]] w (λv w'=>v=.int .i64 (Cn.idx (Cl.lineBad) l)∧Le w w'):=by
 have hle:=hl.le;refine enT [v0,.func (.func 94) #[] #[]] 19 func111 rfl rfl (C.sr λK1=>O.j (K1 (C.sq λK2=>C.sr λK3=>O.mv (O.len U45 rfl hl (O.mv (K3 (C.bl λK4=>C.loop0 (σ:=Nat) (λf0 w0 k f wz=>f 8=.int .i64 (k)∧f 0=f0 0∧f 1=f0 1∧f 7=f0 7∧Le w wz∧k<=l.length∧∀i,∀h:i<l.length,i<k->(Cl.lineBad) l[i]=false) (λk=>l.length-k) 0 ?_ ?_)))))))
 ·
  refine ⟨rfl,rfl,rfl,rfl,leR,?_⟩;exact ⟨Nat.zero_le _,λi h k=>absurd k (Nat.not_lt_zero _)⟩
 rintro k f_1 w1 ⟨s8_1,s0_1,s1_1,s7_1,e_1,⟨hk,hI⟩⟩;have z_1:=e_1.size;refine C.sr λK5=>O.lssI s8_1 s7_1 (K5 (C.sq λK6=>C.condD rfl (λc9=>?_) (λc9=>?_)))
 ·
  have hk2:k<l.length:=by omega
  have sp1_:∃q:Cl.Line,q=l[k]'hk2:=⟨_,rfl⟩
  obtain ⟨x,hx⟩:=sp1_;refine C.skip (K6 (C.sq λK7=>C.bl λK8=>C.sr λK9=>O.mv (O.j (K9 (C.sr λK10=>O.mv (O.mv (O.mv (O.idx U45 Z59 rfl s0_1 (hl.L e_1) s8_1 (by omega) (λa14 h14=>O.loadG (G:=lineF) isAgg59 Z59 rfl h14 (O.cast (v':=.agg #[str x.1,.int .i64 x.2]) (by rw[hx];rfl) (O.callV (vs:=[.agg #[str x.1,.int .i64 x.2]]) call94 s1_1 (args1 rfl) (saidL_spec x _ (hs x (by rw[hx];exact List.getElem_mem _))) ?_)))))))))));rintro v_16 w2 ⟨rfl,e2⟩;have z2:=e2.size;refine K10 (C.cond rfl (λc16=>?_) (λc16=>?_))
  ·
   refine C.sr λK11=>O.mv (O.j (K11 (C.ret (Outs.one rfl s8_1 ?_))))
   first
   |exact ⟨cI (Cn.idx_yes hk2 (by rw[<-hx];exact c16) hI).symm,(Ext.T e_1 e2)⟩
   |exact ⟨cI (Cn.idx_no λi hi=>hI i hi (by omega)).symm,(Ext.T e_1 e2)⟩
  refine C.skip (K8 (K7 (C.region (O.ad s8_1 rfl (O.mv (O.o (⟨k+1,⟨rfl,s0_1,s1_1,s7_1,(Ext.T e_1 e2),?_⟩,by first|omega|(simp only[];omega)⟩)))))));refine ⟨by omega,λi hi hik=>?_⟩;rcases Nat.lt_or_eq_of_le (Nat.le_of_lt_succ hik) with h|rfl
  ·exact hI i hi h
  ·(rw[<-hx];simpa using c16)
 refine C.exit (K4 (K2 (C.sr λK12=>O.j (K12 (C.ret (Outs.one rfl rfl ?_))))))
 first
 |exact ⟨cI (Cn.idx_yes hk2 (by rw[<-hx];exact c16) hI).symm,e_1⟩
 |exact ⟨cI (Cn.idx_no λi hi=>hI i hi (by omega)).symm,e_1⟩
theorem indexY_spec (v0:Value)(l:List Raw)(F:Nat->Prop)(w:World)(hl:Sl slF.enc w F v0 l):
 Ret prog 112 #[v0,.func (.func 96) #[] #[]] w (λv w'=>v=.int .i64 (Cn.idx (λr:Raw=>Cl.lenBad r.2.1) l)∧Le w w'):=by
 have hle:=hl.le;refine enT [v0,.func (.func 96) #[] #[]] 19 func112 rfl rfl (C.sr λK1=>O.j (K1 (C.sq λK2=>C.sr λK3=>O.mv (O.len U46 rfl hl (O.mv (K3 (C.bl λK4=>C.loop0 (σ:=Nat) (λf0 w0 k f wz=>f 8=.int .i64 (k)∧f 0=f0 0∧f 1=f0 1∧f 7=f0 7∧Le w wz∧k<=l.length∧∀i,∀h:i<l.length,i<k->(λr:Raw=>Cl.lenBad r.2.1) l[i]=false) (λk=>l.length-k) 0 ?_ ?_)))))))
 ·
  refine ⟨rfl,rfl,rfl,rfl,leR,?_⟩;exact ⟨Nat.zero_le _,λi h k=>absurd k (Nat.not_lt_zero _)⟩
 rintro k f_1 w1 ⟨s8_1,s0_1,s1_1,s7_1,e_1,⟨hk,hI⟩⟩;have z_1:=e_1.size;refine C.sr λK5=>O.lssI s8_1 s7_1 (K5 (C.sq λK6=>C.condD rfl (λc9=>?_) (λc9=>?_)))
 ·
  have hk2:k<l.length:=by omega
  have sp2_:∃q:Raw,q=l[k]'hk2:=⟨_,rfl⟩
  obtain ⟨x,hx⟩:=sp2_;refine C.skip (K6 (C.sq λK7=>C.bl λK8=>C.sr λK9=>O.mv (O.j (K9 (C.sr λK10=>O.mv (O.mv (O.mv (O.idx U46 Z23 rfl s0_1 (hl.L e_1) s8_1 (by omega) (λa14 h14=>O.load1F (G:=slF) isAgg23 rfl rfl rfl h14 (O.cast (v':=slv x) (by rw[hx];rfl) (O.callV (vs:=[slv x]) call96 s1_1 (args1 rfl) (saidB_spec x _) ?_)))))))))));rintro v_16 w2 ⟨rfl,e2⟩;have z2:=e2.size;refine K10 (C.cond rfl (λc16=>?_) (λc16=>?_))
  ·
   refine C.sr λK11=>O.mv (O.j (K11 (C.ret (Outs.one rfl s8_1 ?_))))
   first
   |exact ⟨cI (Cn.idx_yes hk2 (by rw[<-hx];exact c16) hI).symm,(Ext.T e_1 e2)⟩
   |exact ⟨cI (Cn.idx_no λi hi=>hI i hi (by omega)).symm,(Ext.T e_1 e2)⟩
  refine C.skip (K8 (K7 (C.region (O.ad s8_1 rfl (O.mv (O.o (⟨k+1,⟨rfl,s0_1,s1_1,s7_1,(Ext.T e_1 e2),?_⟩,by first|omega|(simp only[];omega)⟩)))))));refine ⟨by omega,λi hi hik=>?_⟩;rcases Nat.lt_or_eq_of_le (Nat.le_of_lt_succ hik) with h|rfl
  ·exact hI i hi h
  ·(rw[<-hx];simpa using c16)
 refine C.exit (K4 (K2 (C.sr λK12=>O.j (K12 (C.ret (Outs.one rfl rfl ?_))))))
 first
 |exact ⟨cI (Cn.idx_yes hk2 (by rw[<-hx];exact c16) hI).symm,e_1⟩
 |exact ⟨cI (Cn.idx_no λi hi=>hI i hi (by omega)).symm,e_1⟩
theorem containsL_spec (v0:Value)(l:List Cl.Line)(F:Nat->Prop)(w:World)(hl:Sl lineF.enc w F v0 l)(hs:∀x∈l,x.1.length<=1000000):
 Ret prog 93 #[v0,.func (.func 94) #[] #[]] w (λv w'=>v=.bool (l.any Cl.lineBad)∧Le w w'):=by
 refine enT [v0,.func (.func 94) #[] #[]] 9 func93 rfl rfl (C.sr λK1=>O.j (K1 (C.sr λK2=>O.mv (O.mv (O.call call111 (args2 rfl rfl) (indexL_spec v0 l F _ hl hs) ?_)))));rintro v_7 w1 ⟨rfl,e1⟩;have z1:=e1.size;refine O.geqI rfl rfl (O.j (K2 (C.ret (Outs.one rfl rfl ?_))));exact ⟨cB (Cn.idx_any l),e1⟩
theorem containsY_spec (v0:Value)(l:List Raw)(F:Nat->Prop)(w:World)(hl:Sl slF.enc w F v0 l):
 Ret prog 95 #[v0,.func (.func 96) #[] #[]] w (λv w'=>v=.bool (l.any (λr=>Cl.lenBad r.2.1))∧Le w w'):=by
 refine enT [v0,.func (.func 96) #[] #[]] 9 func95 rfl rfl (C.sr λK1=>O.j (K1 (C.sr λK2=>O.mv (O.mv (O.call call112 (args2 rfl rfl) (indexY_spec v0 l F _ hl) ?_)))));rintro v_7 w1 ⟨rfl,e1⟩;have z1:=e1.size;refine O.geqI rfl rfl (O.j (K2 (C.ret (Outs.one rfl rfl ?_))));exact ⟨cB (Cn.idx_any l),e1⟩
theorem said_spec (a:Cl.Ans)(vl vb:Value)(ro:List Raw)(F:Nat->Prop)(w:World)(hl:Sl lineF.enc w F vl a.lines)(hb:Sl slF.enc w F vb ro)(hbs:SlsL byteE w F ro a.bats)(hs:Cl.ShortA a)(hA:Cl.InA a)(gw:Gw w):
 Ret prog 64 #[.agg #[.int .i64 a.op,.int .i64 a.err,.int .i64 a.count,vl,vb]] w (λv w'=>v=.bool (Cl.hasT a)∧Le w w'):=by
 have hlo:=hl.oneC;have hbo:=hb.oneC;have hle:=hl.le;have hbe:=hb.le;have hrl:=hbs.1;obtain ⟨hs1,hs2,hs3,hs4⟩:=hs;have hcm:=hA.2.1;unfold Cl.InI64 at hcm;refine enT [.agg #[.int .i64 a.op,.int .i64 a.err,.int .i64 a.count,vl,vb]] 98 func64 rfl rfl (C.sr λK1=>O.box (v:=.agg #[.int .i64 a.op,.int .i64 a.err,.int .i64 a.count,vl,vb]) rfl (λb1 w1 hb1 hz1 e1=>?_));have z1:=e1.size;have h1:=hz1.own;have hl1:=h1.lt;refine O.j (K1 (C.sr λK2=>O.fa U48 rfl Z22 rfl (O.loadO isAgg22 rfl h1 rfl (O.call call40 (args1 rfl) (find_spec _ _ (gw.L e1)) ?_))));rintro v_11 w2 ⟨rfl,e2⟩;have z2:=e2.size;refine O.mv (O.extract rfl rfl (O.extract rfl rfl (O.alloc zeroValue72 (λb3 w3 hb3 hz3 e3=>?_))));have z3:=e3.size;have h3:=hz3.own;have hl3:=h3.lt;refine O.storeA (vs:=[str (Cl.word a.op),str (Cl.parts a.op)]) Z72 rfl rfl rfl (by intro u hu;simp only[List.mem_cons,List.not_mem_nil,or_false] at hu;rcases hu with rfl|rfl<;>rfl) h3 (leB rfl) (λw4 hs4 e4 z4=>O.j (K2 (C.sr λK3=>O.fa U48 rfl Z22 rfl ?_)));have t0:=(h1.L e2).L e3;refine O.loadO isAgg22 rfl (t0.kO e4) rfl (O.eqlI rfl rfl (O.mv (O.cut 5 (λf f'=>f' 22=.bool (decide (a.op=4∨(a.lines.length:Int)=0))∧f' 1=f 1∧f' 2=f 2∧f' 4=f 4) ?_ ?_)))
 ·
  refine O.splitD (x:=.tmp 17) rfl (λc17=>?_) (λc17=>?_)
  ·
   refine O.no rfl (noB (isT rfl c17) rfl) (O.no rfl (noB (isT rfl c17) rfl) (O.no rfl (noB (isT rfl c17) rfl) (O.no rfl (noB (isT rfl c17) rfl) (O.pickT (isT rfl c17) (O.o (⟨⟨?_,rfl,rfl,rfl⟩,rfl⟩))))));exact dJ rfl
  refine O.yes rfl (isF rfl c17) (O.fa U48 rfl Z45 rfl (O.yes rfl (isF rfl c17) (O.loadO isAgg45 rfl (t0.kO e4) rfl (O.yes rfl (isF rfl c17) (O.len U45 rfl (hl.L (Ext.nr (Ext.T (Ext.T e1 e2) e3) e4)) (O.yes rfl (isF rfl c17) (O.eqlI rfl rfl (O.pickF (isF rfl c17) (O.o (⟨⟨?_,rfl,rfl,rfl⟩,rfl⟩))))))))));exact dJ rfl
 rintro f_1 ⟨s22_1,s1_1,s2_1,s4_1⟩;refine O.j (K3 (C.sr λK4=>O.fa U48 rfl Z22 s1_1 (O.loadO isAgg22 rfl (t0.kO e4) rfl (O.eqlI rfl rfl (O.mv (O.cut 5 (λf f'=>f' 31=.bool (decide (a.op=10∨(ro.length:Int)=0))∧f' 1=f 1∧f' 2=f 2∧f' 4=f 4∧f' 5=f 5) ?_ ?_))))))
 ·
  refine O.splitD (x:=.tmp 26) rfl (λc26=>?_) (λc26=>?_)
  ·
   refine O.no rfl (noB (isT rfl c26) rfl) (O.no rfl (noB (isT rfl c26) rfl) (O.no rfl (noB (isT rfl c26) rfl) (O.no rfl (noB (isT rfl c26) rfl) (O.pickT (isT rfl c26) (O.o (⟨⟨?_,rfl,rfl,rfl,rfl⟩,rfl⟩))))));exact dJ rfl
  refine O.yes rfl (isF rfl c26) (O.fa U48 rfl Z46 s1_1 (O.yes rfl (isF rfl c26) (O.loadO isAgg46 rfl (t0.kO e4) rfl (O.yes rfl (isF rfl c26) (O.len U46 rfl (hb.L (Ext.nr (Ext.T (Ext.T e1 e2) e3) e4)) (O.yes rfl (isF rfl c26) (O.eqlI rfl rfl (O.pickF (isF rfl c26) (O.o (⟨⟨?_,rfl,rfl,rfl,rfl⟩,rfl⟩))))))))));exact dJ rfl
 rintro f_2 ⟨s31_2,s1_2,s2_2,s4_2,s5_2⟩;refine O.j (K4 (C.sq λK5=>C.sr λK6=>O.mv (O.not (Eq.trans s4_2 s4_1) (O.mv (O.split (x:=.tmp 34) rfl (λc34=>?_) (λc34=>?_))))))
 ·
  refine O.no rfl (noB (isT' rfl c34) rfl) (O.no rfl (noB (isT' rfl c34) rfl) (O.no rfl (noB (isT' rfl c34) rfl) (O.pickT (isT' rfl c34) (O.mv (O.no rfl (noB rfl rfl) (O.no rfl (noB rfl rfl) (O.no rfl (noB rfl rfl) (O.pickT rfl (O.mv (O.no rfl (noB rfl rfl) (O.no rfl (noB rfl rfl) (O.no rfl (noB rfl rfl) (O.pickT rfl (O.mv (O.no rfl (noB rfl rfl) (O.no rfl (noB rfl rfl) (O.pickT rfl (O.mv (O.no rfl (noB rfl rfl) (O.no rfl (noB rfl rfl) (O.pickT rfl (O.mv (O.no rfl (noB rfl rfl) (O.no rfl (noB rfl rfl) (O.no rfl (noB rfl rfl) (O.no rfl (noB rfl rfl) (O.pickT rfl (O.mv (O.no rfl (noB rfl rfl) (O.no rfl (noB rfl rfl) (O.no rfl (noB rfl rfl) ?_)))))))))))))))))))))))))))))));refine O.no rfl (noB rfl rfl) (O.pickT rfl (K6 (C.condT rfl (C.sr λK7=>O.j (K7 (C.ret (Outs.one rfl rfl ?_)))))));exact ⟨cB (Cl.hd_no (λh=>by
   have sp3_:=Cl.hd_iff.1 h;obtain ⟨q1,q2,q3,q4,q5,q6⟩:=sp3_;rw[q1] at c34;cases c34)),(Ext.nr (Ext.T (Ext.T e1 e2) e3) e4)⟩
 refine O.yes rfl (isF' rfl c34) (O.fa U48 rfl Z28 (Eq.trans s1_2 s1_1) (O.yes rfl (isF' rfl c34) (O.loadO isAgg28 rfl (t0.kO e4) rfl (O.yes rfl (isF' rfl c34) (O.lssI rfl rfl (O.pickF (isF' rfl c34) (O.mv (O.splitD (x:=.tmp 39) rfl (λc39=>?_) (λc39=>?_)))))))))
 ·
  refine O.no rfl (noB (isT rfl c39) rfl) (O.no rfl (noB (isT rfl c39) rfl) (O.no rfl (noB (isT rfl c39) rfl) (O.pickT (isT rfl c39) (O.mv (O.no rfl (noB rfl rfl) (O.no rfl (noB rfl rfl) (O.no rfl (noB rfl rfl) (O.pickT rfl (O.mv (O.no rfl (noB rfl rfl) (O.no rfl (noB rfl rfl) (O.pickT rfl (O.mv (O.no rfl (noB rfl rfl) (O.no rfl (noB rfl rfl) (O.pickT rfl (O.mv (O.no rfl (noB rfl rfl) (O.no rfl (noB rfl rfl) (O.no rfl (noB rfl rfl) (O.no rfl (noB rfl rfl) (O.pickT rfl (O.mv (O.no rfl (noB rfl rfl) (O.no rfl (noB rfl rfl) (O.no rfl (noB rfl rfl) (O.no rfl (noB rfl rfl) (O.pickT rfl (K6 (C.condT rfl (C.sr λK8=>O.j (K8 (C.ret ?_)))))))))))))))))))))))))))))))));refine Outs.one rfl rfl ?_;exact ⟨cB (Cl.hd_no (λh=>by
   have sp4_:=Cl.hd_iff.1 h;obtain ⟨q1,q2,q3,q4,q5,q6⟩:=sp4_
   omega)),(Ext.nr (Ext.T (Ext.T e1 e2) e3) e4)⟩
 refine O.yes rfl (isF rfl c39) (O.fa U48 rfl Z28 (Eq.trans s1_2 s1_1) (O.yes rfl (isF rfl c39) (O.loadO isAgg28 rfl (t0.kO e4) rfl (O.yes rfl (isF rfl c39) (O.gtrI rfl rfl (O.pickF (isF rfl c39) (O.mv (O.splitD (x:=.tmp 44) rfl (λc44=>?_) (λc44=>?_)))))))))
 ·
  refine O.no rfl (noB (isT rfl c44) rfl) (O.no rfl (noB (isT rfl c44) rfl) (O.no rfl (noB (isT rfl c44) rfl) (O.pickT (isT rfl c44) (O.mv (O.no rfl (noB rfl rfl) (O.no rfl (noB rfl rfl) (O.pickT rfl (O.mv (O.no rfl (noB rfl rfl) (O.no rfl (noB rfl rfl) (O.pickT rfl (O.mv (O.no rfl (noB rfl rfl) (O.no rfl (noB rfl rfl) (O.no rfl (noB rfl rfl) (O.no rfl (noB rfl rfl) (O.pickT rfl (O.mv (O.no rfl (noB rfl rfl) (O.no rfl (noB rfl rfl) (O.no rfl (noB rfl rfl) (O.no rfl (noB rfl rfl) (O.pickT rfl (K6 (C.condT rfl (C.sr λK9=>O.j (K9 (C.ret (Outs.one rfl rfl ?_)))))))))))))))))))))))))))));exact ⟨cB (Cl.hd_no (λh=>by
   have sp5_:=Cl.hd_iff.1 h;obtain ⟨q1,q2,q3,q4,q5,q6⟩:=sp5_
   omega)),(Ext.nr (Ext.T (Ext.T e1 e2) e3) e4)⟩
 refine O.yes rfl (isF rfl c44) (O.fa U48 rfl Z3 (Eq.trans s1_2 s1_1) (O.yes rfl (isF rfl c44) (O.loadO isAgg3 rfl (t0.kO e4) rfl (O.yes rfl (isF rfl c44) (O.lssI rfl rfl (O.pickF (isF rfl c44) (O.mv (O.splitD (x:=.tmp 49) rfl (λc49=>?_) (λc49=>?_)))))))))
 ·
  refine O.no rfl (noB (isT rfl c49) rfl) (O.no rfl (noB (isT rfl c49) rfl) (O.pickT (isT rfl c49) (O.mv (O.no rfl (noB rfl rfl) (O.no rfl (noB rfl rfl) (O.pickT rfl (O.mv (O.no rfl (noB rfl rfl) (O.no rfl (noB rfl rfl) (O.no rfl (noB rfl rfl) (O.no rfl (noB rfl rfl) (O.pickT rfl (O.mv (O.no rfl (noB rfl rfl) (O.no rfl (noB rfl rfl) (O.no rfl (noB rfl rfl) (O.no rfl (noB rfl rfl) (O.pickT rfl (K6 (C.condT rfl (C.sr λK10=>O.j (K10 (C.ret (Outs.one rfl rfl ?_))))))))))))))))))))))));exact ⟨cB (Cl.hd_no (λh=>by
   have sp6_:=Cl.hd_iff.1 h;obtain ⟨q1,q2,q3,q4,q5,q6⟩:=sp6_
   omega)),(Ext.nr (Ext.T (Ext.T e1 e2) e3) e4)⟩
 refine O.yes rfl (isF rfl c49) (O.mv (O.yes rfl (isF rfl c49) (O.not (Eq.trans s5_2 s22_1) (O.pickF (isF rfl c49) (O.mv (O.split (x:=.tmp 53) rfl (λc53=>?_) (λc53=>?_)))))))
 ·
  refine O.no rfl (noB (isT' rfl c53) rfl) (O.no rfl (noB (isT' rfl c53) rfl) (O.pickT (isT' rfl c53) (O.mv (O.no rfl (noB rfl rfl) (O.no rfl (noB rfl rfl) (O.no rfl (noB rfl rfl) (O.no rfl (noB rfl rfl) (O.pickT rfl (O.mv (O.no rfl (noB rfl rfl) (O.no rfl (noB rfl rfl) (O.no rfl (noB rfl rfl) (O.no rfl (noB rfl rfl) (O.pickT rfl (K6 (C.condT rfl (C.sr λK11=>O.j (K11 (C.ret (Outs.one rfl rfl ?_))))))))))))))))))));exact ⟨cB (Cl.hd_no (λh=>by
   have sp7_:=Cl.hd_iff.1 h;obtain ⟨q1,q2,q3,q4,q5,q6⟩:=sp7_;have q:=Cl.nd c53;omega)),(Ext.nr (Ext.T (Ext.T e1 e2) e3) e4)⟩
 refine O.yes rfl (isF' rfl c53) (O.mv (O.yes rfl (isF' rfl c53) (O.not s31_2 (O.pickF (isF' rfl c53) (O.mv (O.split (x:=.tmp 57) rfl (λc57=>?_) (λc57=>?_)))))))
 ·
  refine O.no rfl (noB (isT' rfl c57) rfl) (O.no rfl (noB (isT' rfl c57) rfl) (O.no rfl (noB (isT' rfl c57) rfl) (O.no rfl (noB (isT' rfl c57) rfl) (O.pickT (isT' rfl c57) (O.mv (O.no rfl (noB rfl rfl) (O.no rfl (noB rfl rfl) (O.no rfl (noB rfl rfl) (O.no rfl (noB rfl rfl) (O.pickT rfl (K6 (C.condT rfl (C.sr λK12=>O.j (K12 (C.ret (Outs.one rfl rfl ?_))))))))))))))));exact ⟨cB (Cl.hd_no (λh=>by
   have sp8_:=Cl.hd_iff.1 h;obtain ⟨q1,q2,q3,q4,q5,q6⟩:=sp8_;have q:=Cl.nd c57;omega)),(Ext.nr (Ext.T (Ext.T e1 e2) e3) e4)⟩
 refine O.yes rfl (isF' rfl c57) (O.fa U48 rfl Z45 (Eq.trans s1_2 s1_1) (O.yes rfl (isF' rfl c57) (O.loadO isAgg45 rfl (t0.kO e4) rfl (O.yes rfl (isF' rfl c57) ?_))));have t1:=Ext.T (Ext.T e1 e2) e3;refine O.len U45 rfl (hl.L (Ext.nr t1 e4)) (O.yes rfl (isF' rfl c57) (O.gtrI rfl rfl (O.pickF (isF' rfl c57) (O.mv (O.splitD (x:=.tmp 63) rfl (λc63=>?_) (λc63=>?_))))))
 ·
  refine O.no rfl (noB (isT rfl c63) rfl) (O.no rfl (noB (isT rfl c63) rfl) (O.no rfl (noB (isT rfl c63) rfl) (O.no rfl (noB (isT rfl c63) rfl) (O.pickT (isT rfl c63) (K6 (C.condT rfl (C.sr λK13=>O.j (K13 (C.ret (Outs.one rfl rfl ?_))))))))));exact ⟨cB (Cl.hd_no (λh=>by
   have sp9_:=Cl.hd_iff.1 h;obtain ⟨q1,q2,q3,q4,q5,q6⟩:=sp9_
   omega)),(Ext.nr t1 e4)⟩
 refine O.yes rfl (isF rfl c63) (O.fa U48 rfl Z46 (Eq.trans s1_2 s1_1) (O.yes rfl (isF rfl c63) (O.loadO isAgg46 rfl (t0.kO e4) rfl (O.yes rfl (isF rfl c63) (O.len U46 rfl (hb.L (Ext.nr t1 e4)) (O.yes rfl (isF rfl c63) (O.gtrI rfl rfl (O.pickF (isF rfl c63) (K6 (C.condD rfl (λc68=>?_) (λc68=>?_)))))))))))
 ·
  refine C.sr λK14=>O.j (K14 (C.ret (Outs.one rfl rfl ?_)))
  exact ⟨cB (Cl.hd_no (λh=>by
   have sp10_:=Cl.hd_iff.1 h;obtain ⟨q1,q2,q3,q4,q5,q6⟩:=sp10_
   omega)),(Ext.nr t1 e4)⟩
 have hH:Cl.Hd a:=Cl.hd_iff.2 ⟨Cl.nn c34,by omega,by have q:=Cl.dn c53;omega,by have q:=Cl.dn c57;omega,by omega,by omega⟩;refine C.skip (K5 (C.sr λK15=>O.fa U48 rfl Z45 (Eq.trans s1_2 s1_1) (O.loadO isAgg45 rfl (t0.kO e4) rfl (O.call call93 (args2 rfl rfl) (containsL_spec vl a.lines F _ (hl.L (Ext.nr t1 e4)) hs3) ?_))));rintro v_71 w5 ⟨rfl,e5⟩;have z5:=e5.size;refine O.j (K15 (C.sr λK16=>O.mv (O.mv (O.split (x:=.tmp 73) rfl (λc73=>?_) (λc73=>?_)))))
 ·
  refine O.no rfl (noB (isT' rfl c73) rfl) (O.no rfl (noB (isT' rfl c73) rfl) (O.no rfl (noB (isT' rfl c73) rfl) (O.pickT (isT' rfl c73) (O.j (K16 (C.sr λK17=>O.mv (O.not rfl (O.cast (v':=.bool false) rfl (O.mv (O.no rfl (noB rfl rfl) (O.no rfl (noB rfl rfl) (O.no rfl (noB rfl rfl) (O.no rfl (noB rfl rfl) (O.no rfl (noU rfl) (O.no rfl (noU rfl) (O.no rfl (noU rfl) (O.no rfl (noU rfl) (O.no rfl (noU rfl) (O.no rfl (noU rfl) (O.no rfl (noU rfl) (O.no rfl (noU rfl) (O.no rfl (noU rfl) (O.no rfl (noU rfl) (O.no rfl (noU rfl) (O.no rfl (noB rfl rfl) (O.pickF rfl (O.j (K17 (C.ret (Outs.one rfl rfl ?_))))))))))))))))))))))))))))));exact ⟨cB (Cl.bad_no (Cl.or_l c73)),(Ext.T (Ext.nr t1 e4) e5)⟩
 refine O.yes rfl (isF' rfl c73) (O.fa U48 rfl Z46 (Eq.trans s1_2 s1_1) (O.yes rfl (isF' rfl c73) (O.loadO isAgg46 rfl ((t0.kO e4).L e5) rfl (O.yes rfl (isF' rfl c73) ?_))));have t2:=Ext.T (Ext.nr t1 e4) e5;refine O.call call95 (args2 rfl rfl) (containsY_spec vb ro F _ (hb.L t2)) ?_;rintro v_76 w6 ⟨rfl,e6⟩;have z6:=e6.size;refine O.pickF (isF' rfl c73) (O.j (K16 (C.sr λK18=>O.mv (O.not rfl (O.mv (O.split (x:=.tmp 80) rfl (λc80=>?_) (λc80=>?_)))))))
 ·
  have hnb:¬(a.lines.any Cl.lineBad||a.bats.any (λb=>Cl.lenBad b.length))=true:=Cl.or_f c73 (by rw[<-hbs.any Cl.lenBad];exact Cl.nt c80);refine O.yes rfl (isT' rfl c80) (O.fa U48 rfl Z28 (Eq.trans s1_2 s1_1) (O.yes rfl (isT' rfl c80) (O.loadO isAgg28 rfl (((t0.kO e4).L e5).L e6) rfl (O.yes rfl (isT' rfl c80) (O.eqlI rfl rfl (O.yes rfl (isT' rfl c80) (O.mv (O.splitD (x:=.tmp 84) rfl (λc84=>?_) (λc84=>?_)))))))))
  ·
   refine O.no rfl (noB (isT rfl c84) rfl) (O.no rfl (noB (isT rfl c84) rfl) (O.no rfl (noB (isT rfl c84) rfl) (O.no rfl (noB (isT rfl c84) rfl) (O.no rfl (noB (isT rfl c84) rfl) (O.no rfl (noB (isT rfl c84) rfl) (O.no rfl (noB (isT rfl c84) rfl) (O.no rfl (noB (isT rfl c84) rfl) (O.no rfl (noB (isT rfl c84) rfl) (O.no rfl (noB (isT rfl c84) rfl) (O.no rfl (noB (isT rfl c84) rfl) (O.yes rfl (isT' rfl c80) (O.pickT (isT rfl c84) (O.pickT (isT' rfl c80) (O.j (K18 (C.ret (Outs.one rfl rfl ?_)))))))))))))))));exact ⟨cB (Cl.fin_eq hH hnb ⟨λ_=>.inl c84,λ_=>rfl⟩),(Ext.T t2 e6)⟩
  refine O.yes rfl (isF rfl c84) (O.fa U48 rfl Z3 (Eq.trans s1_2 s1_1) (O.yes rfl (isF rfl c84) (O.loadO isAgg3 rfl (((t0.kO e4).L e5).L e6) rfl (O.yes rfl (isF rfl c84) (O.fa U48 rfl Z45 (Eq.trans s1_2 s1_1) (O.yes rfl (isF rfl c84) (O.loadO isAgg45 rfl (((t0.kO e4).L e5).L e6) rfl (O.yes rfl (isF rfl c84) (O.len U45 rfl (hl.L (Ext.T t2 e6)) (O.yes rfl (isF rfl c84) (O.addW rfl rfl (O.yes rfl (isF rfl c84) (O.fa U48 rfl Z46 (Eq.trans s1_2 s1_1) (O.yes rfl (isF rfl c84) (O.loadO isAgg46 rfl (((t0.kO e4).L e5).L e6) rfl ?_)))))))))))))));refine O.yes rfl (isF rfl c84) (O.len U46 rfl (hb.L (Ext.T t2 e6)) (O.yes rfl (isF rfl c84) (O.addW rfl rfl (O.yes rfl (isF rfl c84) (O.eqlI rfl rfl (O.yes rfl (isT' rfl c80) (O.pickF (isF rfl c84) (O.pickT (isT' rfl c80) (O.j (K18 (C.ret (Outs.one rfl rfl ?_))))))))))));exact ⟨cB (Cl.fin_eq hH hnb (by
   rw[decide_eq_true_eq,Cl.fin_iff,Cl.sum_zero (by omega) (by omega) (by omega) (by omega)]
   omega)),(Ext.T t2 e6)⟩
 refine O.no rfl (noB (isF' rfl c80) rfl) (O.no rfl (noB (isF' rfl c80) rfl) (O.no rfl (noB (isF' rfl c80) rfl) (O.no rfl (noB (isF' rfl c80) rfl) (O.no rfl (noU rfl) (O.no rfl (noU rfl) (O.no rfl (noU rfl) (O.no rfl (noU rfl) (O.no rfl (noU rfl) (O.no rfl (noU rfl) (O.no rfl (noU rfl) (O.no rfl (noU rfl) (O.no rfl (noU rfl) (O.no rfl (noU rfl) (O.no rfl (noU rfl) (O.no rfl (noB (isF' rfl c80) rfl) (O.pickF (isF' rfl c80) (O.j (K18 (C.ret (Outs.one rfl rfl ?_))))))))))))))))))));exact ⟨cB (Cl.bad_no (Cl.or_r (by rw[<-hbs.any Cl.lenBad];exact Cl.nn c80))),(Ext.T t2 e6)⟩
end Go.Proofs.YtbnblcnabgdndaaGreatDoor
end
