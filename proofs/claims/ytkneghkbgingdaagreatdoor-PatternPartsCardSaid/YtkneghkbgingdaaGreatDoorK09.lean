/- The library contracts that this claim uses, laid at its program by the kit (lay-shelf, lay-plain) and cut down to those. -/
import Derived.Shelf.Strings.Builder1
import Derived.Shelf.Strings.Builder2
import Derived.Shelf.Strings.OnBuilder
import Derived.Shelf.Small.Utf8
import Derived.Shelf.Small.Strs
import Derived.Shelf.Small.Wraps
import Derived.Shelf.Strings.BuilderF
import Derived.Shelf.Strconv.Atoi
import Derived.Shelf.Strconv.Itoa0
import Derived.Shelf.Strconv.Itoa1
import Derived.Shelf.LaysM
import Derived.Shelf.Strconv.Itoa2
import Derived.Shelf.Strconv.Itoa3
import Derived.Shelf.Strconv.AtoiErrFast
import Derived.Shelf.Strconv.ParseIntEmpty
import Derived.Shelf.Strconv.AtoiFail
import Derived.Shelf.Strconv.Clone
import Derived.Shelf.Strconv.SyntaxError
import Derived.Shelf.LaysC
import Derived.Shelf.Strconv.ToError
import Derived.Shelf.Strconv.AtoiErr
import Derived.Shelf.Strconv.ErrVar
import Derived.Shelf.Strconv.Lower
import Derived.Shelf.Strconv.ParseUint10
import Derived.Shelf.Strconv.ParseUint10Empty
import Derived.Shelf.Strconv.ParseUint10Any
import Derived.Shelf.Strconv.ParseInt10
import Derived.Shelf.Strconv.AtoiLong
import Derived.Shelf.Strconv.AtoiInnerAll
import Derived.Shelf.Strconv.RangeError
import Derived.Shelf.Strconv.ToErrorRange
import Derived.Shelf.Strconv.AtoiAll
import Derived.Shelf.Strconv.ErrVarAll
import Derived.Shelf.Strings.Search1
import Derived.Shelf.Strings.Search2
import Derived.Shelf.Strings.Search3
import Derived.Shelf.Strings.Cut
import Derived.Shelf.Strings.Count
import Derived.Shelf.Strings.Shaped
import Derived.Shelf.Strings.Prefix
import Derived.Shelf.Strings.Split
import Derived.Shelf.Strings.SplitShaped
import Derived.Shelf.Strings.Runes
import Derived.Shelf.Strings.IndexAny
import Derived.Shelf.Strings.AsciiSet
import Derived.Shelf.Strings.IndexAnyAll
import Derived.Shelf.Bits.Mul64
import Derived.Shelf.Unicode.DecodeSlow
import Derived.Test.YtkneghkbgingdaaGreatDoorK08
import Derived.HandedShaped
import Derived.Lay
import Derived.LaidLaws
import Derived.WalkSmall
import Derived.Stop.LaidErr
import Derived.Lib.LaidTab
import Derived.SevenTiedAt
import Derived.Lib.Split
import Derived.Lib.Join
import Derived.Lib.ItoaNum
import Derived.Lib.Atoi
import Derived.Lib.AtoiAll
import Derived.Lib.AtoiBound
import Derived.Lib.AppendIntMem
import Derived.Lib.AtoiErrMem
namespace Go.Proofs
open Go.Shelf
def Tryz.lays170_ren:Go.Shelf.Ren:=⟨fun | 170=>39 | n=>n,fun | 70=>77 | 3=>3 | 0=>0 | 72=>80 | 37=>78 | 5=>5 | n=>n,fun | n=>n⟩
theorem Tryz.lays170:Go.Proofs.Lays.n170 Tryz.prog Tryz.lays170_ren:={
 mixed:=by kernel_rfl
 f170:=Tryz.func39.trans (congrArg some (by kernel_rfl))
 t0:=Tryz.underlying0
 a0:=Tryz.isAgg0
 z0:=Tryz.sizeOf0
 v0:=Tryz.zeroValue0
 t3:=Tryz.underlying3
 a3:=Tryz.isAgg3
 z3:=Tryz.sizeOf3
 v3:=Tryz.zeroValue3
 t37:=Tryz.underlying78
 a37:=Tryz.isAgg78
 z37:=Tryz.sizeOf78
 v37:=Tryz.zeroValue78
 t70:=Tryz.underlying77
 a70:=Tryz.isAgg77
 z70:=Tryz.sizeOf77
 v70:=Tryz.zeroValue77
 t72:=Tryz.underlying80
 a72:=Tryz.isAgg80
 z72:=Tryz.sizeOf80
 v72:=Tryz.zeroValue80 }
def Tryz.lays169_ren:Go.Shelf.Ren:=⟨fun | 169=>40 | n=>n,fun | 70=>77 | 9=>9 | 0=>0 | 72=>80 | 37=>78 | 127=>125 | 3=>3 | 5=>5 | n=>n,fun | n=>n⟩
theorem Tryz.lays169:Go.Proofs.Lays.n169 Tryz.prog Tryz.lays169_ren:={
 mixed:=by kernel_rfl
 f169:=Tryz.func40.trans (congrArg some (by kernel_rfl))
 t0:=Tryz.underlying0
 a0:=Tryz.isAgg0
 z0:=Tryz.sizeOf0
 v0:=Tryz.zeroValue0
 t3:=Tryz.underlying3
 a3:=Tryz.isAgg3
 z3:=Tryz.sizeOf3
 v3:=Tryz.zeroValue3
 t9:=Tryz.underlying9
 a9:=Tryz.isAgg9
 z9:=Tryz.sizeOf9
 v9:=Tryz.zeroValue9
 t37:=Tryz.underlying78
 a37:=Tryz.isAgg78
 z37:=Tryz.sizeOf78
 v37:=Tryz.zeroValue78
 t70:=Tryz.underlying77
 a70:=Tryz.isAgg77
 z70:=Tryz.sizeOf77
 v70:=Tryz.zeroValue77
 t72:=Tryz.underlying80
 a72:=Tryz.isAgg80
 z72:=Tryz.sizeOf80
 v72:=Tryz.zeroValue80
 t127:=Tryz.underlying125
 a127:=Tryz.isAgg125
 z127:=Tryz.sizeOf125
 v127:=Tryz.zeroValue125 }
theorem Tryz.Builder_Extra_169:Builder.Extra Tryz.prog Tryz.lays169_ren:={
 sizeBuilder:=by kernel_rfl
 liesBuilder:=by kernel_rfl
 t5:=Tryz.underlying5
 a5:=Tryz.isAgg5
 z5:=Tryz.sizeOf5
 v5:=Tryz.zeroValue5
 infoByte:=by kernel_rfl
 cellsByte:=by kernel_rfl
 sizeByte:=by kernel_rfl
 neB5:=by decide }
def Tryz.lays156_ren:Go.Shelf.Ren:=⟨fun | 156=>183 | 165=>190 | 166=>36 | 169=>40 | 240=>69 | 241=>196 | 276=>99 | 277=>206 | n=>n,fun | 31=>67 | 9=>9 | 3=>3 | 4=>4 | 0=>0 | 20=>20 | 72=>80 | 76=>84 | 70=>77 | 37=>78 | 75=>83 | 127=>125 | 164=>157 | 5=>5 | 80=>89 | n=>n,fun | n=>n⟩
theorem Tryz.lays156:Go.Proofs.Lays.n156 Tryz.prog Tryz.lays156_ren:={
 mixed:=by kernel_rfl
 f156:=Tryz.func183.trans (congrArg some (by kernel_rfl))
 f165:=Tryz.func190.trans (congrArg some (by kernel_rfl))
 f166:=Tryz.func36.trans (congrArg some (by kernel_rfl))
 f169:=Tryz.func40.trans (congrArg some (by kernel_rfl))
 f240:=Tryz.func69.trans (congrArg some (by kernel_rfl))
 f241:=Tryz.func196.trans (congrArg some (by kernel_rfl))
 f276:=Tryz.func99.trans (congrArg some (by kernel_rfl))
 f277:=Tryz.func206.trans (congrArg some (by kernel_rfl))
 t0:=Tryz.underlying0
 a0:=Tryz.isAgg0
 z0:=Tryz.sizeOf0
 v0:=Tryz.zeroValue0
 t3:=Tryz.underlying3
 a3:=Tryz.isAgg3
 z3:=Tryz.sizeOf3
 v3:=Tryz.zeroValue3
 t4:=Tryz.underlying4
 a4:=Tryz.isAgg4
 z4:=Tryz.sizeOf4
 v4:=Tryz.zeroValue4
 t9:=Tryz.underlying9
 a9:=Tryz.isAgg9
 z9:=Tryz.sizeOf9
 v9:=Tryz.zeroValue9
 t20:=Tryz.underlying20
 a20:=Tryz.isAgg20
 z20:=Tryz.sizeOf20
 v20:=Tryz.zeroValue20
 t31:=Tryz.underlying67
 a31:=Tryz.isAgg67
 z31:=Tryz.sizeOf67
 v31:=Tryz.zeroValue67
 t37:=Tryz.underlying78
 a37:=Tryz.isAgg78
 z37:=Tryz.sizeOf78
 v37:=Tryz.zeroValue78
 t70:=Tryz.underlying77
 a70:=Tryz.isAgg77
 z70:=Tryz.sizeOf77
 v70:=Tryz.zeroValue77
 t72:=Tryz.underlying80
 a72:=Tryz.isAgg80
 z72:=Tryz.sizeOf80
 v72:=Tryz.zeroValue80
 t75:=Tryz.underlying83
 a75:=Tryz.isAgg83
 z75:=Tryz.sizeOf83
 v75:=Tryz.zeroValue83
 t76:=Tryz.underlying84
 a76:=Tryz.isAgg84
 z76:=Tryz.sizeOf84
 v76:=Tryz.zeroValue84
 t127:=Tryz.underlying125
 a127:=Tryz.isAgg125
 z127:=Tryz.sizeOf125
 v127:=Tryz.zeroValue125
 t164:=Tryz.underlying157
 a164:=Tryz.isAgg157
 z164:=Tryz.sizeOf157
 v164:=Tryz.zeroValue157 }
theorem Tryz.Builder_Extra_156:Builder.Extra Tryz.prog Tryz.lays156_ren:={
 sizeBuilder:=by kernel_rfl
 liesBuilder:=by kernel_rfl
 t5:=Tryz.underlying5
 a5:=Tryz.isAgg5
 z5:=Tryz.sizeOf5
 v5:=Tryz.zeroValue5
 infoByte:=by kernel_rfl
 cellsByte:=by kernel_rfl
 sizeByte:=by kernel_rfl
 neB5:=by decide }
open Go.RowKit in
theorem Tryz.strings_Join_none (a:Option Addr) (c:Nat) (sep:ByteArray) (w:World) :
  Calls Tryz.prog 183 #[.slice a 0 c,.string sep] w fun e w'=>e = .returned (.string ⟨#[]⟩)∧w'=w:=Any.strings_Join_none Tryz.lays156 Tryz.Builder_Extra_156 a c sep w
open Go.RowKit in
theorem Tryz.strings_Join (bk o c:Nat) (xs:List ByteArray) (sep:ByteArray) (w:World) (hcells:∀(j:Nat) x,xs[j]?=some x→w.cell? ⟨bk,o+j,none⟩=some (.string x)) (hbk:bk<w.heap.size) (hN:xs.length≤140737488355328) (hcap:xs.length≤c) (hlen:(Lib.join (xs.map (·.data.toList)) sep.data.toList).length≤140737488355328) :
  Calls Tryz.prog 183 #[.slice (some ⟨bk,o,none⟩) xs.length c,.string sep] w fun e w'=>e = .returned (.string ⟨(Lib.join (xs.map (·.data.toList)) sep.data.toList).toArray⟩)∧Below w.heap.size w w':=Any.strings_Join Tryz.lays156 Tryz.Builder_Extra_156 bk o c xs sep w hcells hbk hN hcap hlen
def Tryz.lays137_ren:Go.Shelf.Ren:=⟨fun | 137=>199 | 217=>141 | 266=>167 | n=>n,fun | 9=>9 | 5=>5 | 3=>3 | n=>n,fun | n=>n⟩
theorem Tryz.lays137:Go.Proofs.Lays.n137 Tryz.prog Tryz.lays137_ren:={
 mixed:=by kernel_rfl
 f137:=Tryz.func199.trans (congrArg some (by kernel_rfl))
 f217:=Tryz.func141.trans (congrArg some (by kernel_rfl))
 f266:=Tryz.func167.trans (congrArg some (by kernel_rfl))
 t3:=Tryz.underlying3
 a3:=Tryz.isAgg3
 z3:=Tryz.sizeOf3
 v3:=Tryz.zeroValue3
 t5:=Tryz.underlying5
 a5:=Tryz.isAgg5
 z5:=Tryz.sizeOf5
 v5:=Tryz.zeroValue5
 t9:=Tryz.underlying9
 a9:=Tryz.isAgg9
 z9:=Tryz.sizeOf9
 v9:=Tryz.zeroValue9 }
open Go.RowKit in
theorem Tryz.strings_IndexByte (s:ByteArray) (c:Int) (w:World) :
  Calls Tryz.prog 199 #[.string s,.int .u8 c] w fun e w'=>e = .returned (.int .i64 (Lib.indexByte s.data.toList c.toNat.toUInt8))∧w'=w:=Any.strings_IndexByte Tryz.lays137 s c w
def Tryz.lays103_ren:Go.Shelf.Ren:=⟨fun | 103=>78 | 210=>113 | 206=>145 | n=>n,fun | 9=>9 | 4=>4 | 24=>135 | 3=>3 | n=>n,fun | n=>n⟩
theorem Tryz.lays103:Go.Proofs.Lays.n103 Tryz.prog Tryz.lays103_ren:={
 mixed:=by kernel_rfl
 f103:=Tryz.func78.trans (congrArg some (by kernel_rfl))
 f206:=Tryz.func145.trans (congrArg some (by kernel_rfl))
 f210:=Tryz.func113.trans (congrArg some (by kernel_rfl))
 t3:=Tryz.underlying3
 a3:=Tryz.isAgg3
 z3:=Tryz.sizeOf3
 v3:=Tryz.zeroValue3
 t4:=Tryz.underlying4
 a4:=Tryz.isAgg4
 z4:=Tryz.sizeOf4
 v4:=Tryz.zeroValue4
 t9:=Tryz.underlying9
 a9:=Tryz.isAgg9
 z9:=Tryz.sizeOf9
 v9:=Tryz.zeroValue9
 t24:=Tryz.underlying135
 a24:=Tryz.isAgg135
 z24:=Tryz.sizeOf135
 v24:=Tryz.zeroValue135 }
open Go.RowKit in
theorem Tryz.strings_CutPrefix (s p:ByteArray) (w:World) :
  Calls Tryz.prog 78 #[.string s,.string p] w fun e w'=>e = .returned (.tuple #[.string ⟨(Lib.trimPrefix s.data.toList p.data.toList).toArray⟩,.bool (Lib.hasPrefix s.data.toList p.data.toList)])∧w'=w:=Any.strings_CutPrefix Tryz.lays103 s p w
open Go.RowKit in
theorem Tryz.Builder_Len_f (B b:Nat) (bs:List Value) (w:World) (h:Lib.IsBuilderF 80 5 B b bs w) :
  Calls Tryz.prog 39 #[.pointer (some ⟨b,0,none⟩)] w fun e w'=>e = .returned (.int .i64 bs.length)∧w'=w:=Any.Builder_Len_f Tryz.lays170 B b bs w h
open Go.RowKit in
theorem Tryz.Builder_String_any_k (B b:Nat) (l:List UInt8) (w:World) (h:Lib.IsBuilderF 80 5 B b (Lib.byteCells l) w) (hBw:B≤w.heap.size) :
  Calls Tryz.prog 40 #[.pointer (some ⟨b,0,none⟩)] w fun e w'=>e = .returned (.string ⟨l.toArray⟩)∧(Lib.IsBuilderF 80 5 B b (Lib.byteCells l) w'∧Below B w w'∧Lib.OthersKept 5 (some b) w w'):=Any.Builder_String_any_k Tryz.lays169 Tryz.Builder_Extra_169 B b l w h hBw
def Tryz.lays172_ren:Go.Shelf.Ren:=⟨fun | 172=>114 | 244=>146 | 245=>147 | 247=>169 | 279=>170 | 280=>171 | 281=>172 | 282=>173 | 287=>185 | 316=>186 | 171=>37 | 205=>187 | 321=>191 | 322=>192 | 243=>70 | 246=>100 | 283=>128 | 284=>129 | 285=>130 | 286=>131 | 129=>160 | 317=>159 | 318=>161 | 319=>162 | 320=>163 | 337=>180 | 338=>181 | n=>n,fun | 9=>9 | 3=>3 | 75=>83 | 76=>84 | 4=>4 | 5=>5 | 167=>230 | 37=>78 | 0=>0 | 85=>231 | 2=>2 | 168=>233 | 53=>179 | 175=>246 | 46=>202 | 210=>250 | 127=>125 | 145=>262 | 143=>260 | 21=>21 | 171=>178 | 173=>182 | 212=>221 | 51=>222 | 20=>20 | 213=>223 | 232=>257 | 233=>258 | 80=>89 | n=>n,fun | 15=>2 | 16=>3 | 17=>1 | 18=>6 | 19=>7 | n=>n⟩
theorem Tryz.lays172:Go.Proofs.Lays.n172 Tryz.prog Tryz.lays172_ren:={
 mixed:=by kernel_rfl
 f129:=Tryz.func160.trans (congrArg some (by kernel_rfl))
 f171:=Tryz.func37.trans (congrArg some (by kernel_rfl))
 f172:=Tryz.func114.trans (congrArg some (by kernel_rfl))
 f205:=Tryz.func187.trans (congrArg some (by kernel_rfl))
 f243:=Tryz.func70.trans (congrArg some (by kernel_rfl))
 f244:=Tryz.func146.trans (congrArg some (by kernel_rfl))
 f245:=Tryz.func147.trans (congrArg some (by kernel_rfl))
 f246:=Tryz.func100.trans (congrArg some (by kernel_rfl))
 f247:=Tryz.func169.trans (congrArg some (by kernel_rfl))
 f279:=Tryz.func170.trans (congrArg some (by kernel_rfl))
 f280:=Tryz.func171.trans (congrArg some (by kernel_rfl))
 f281:=Tryz.func172.trans (congrArg some (by kernel_rfl))
 f282:=Tryz.func173.trans (congrArg some (by kernel_rfl))
 f283:=Tryz.func128.trans (congrArg some (by kernel_rfl))
 f284:=Tryz.func129.trans (congrArg some (by kernel_rfl))
 f285:=Tryz.func130.trans (congrArg some (by kernel_rfl))
 f286:=Tryz.func131.trans (congrArg some (by kernel_rfl))
 f287:=Tryz.func185.trans (congrArg some (by kernel_rfl))
 f316:=Tryz.func186.trans (congrArg some (by kernel_rfl))
 f317:=Tryz.func159.trans (congrArg some (by kernel_rfl))
 f318:=Tryz.func161.trans (congrArg some (by kernel_rfl))
 f319:=Tryz.func162.trans (congrArg some (by kernel_rfl))
 f320:=Tryz.func163.trans (congrArg some (by kernel_rfl))
 f321:=Tryz.func191.trans (congrArg some (by kernel_rfl))
 f322:=Tryz.func192.trans (congrArg some (by kernel_rfl))
 f337:=Tryz.func180.trans (congrArg some (by kernel_rfl))
 f338:=Tryz.func181.trans (congrArg some (by kernel_rfl))
 t0:=Tryz.underlying0
 a0:=Tryz.isAgg0
 z0:=Tryz.sizeOf0
 v0:=Tryz.zeroValue0
 t2:=Tryz.underlying2
 a2:=Tryz.isAgg2
 z2:=Tryz.sizeOf2
 v2:=Tryz.zeroValue2
 t3:=Tryz.underlying3
 a3:=Tryz.isAgg3
 z3:=Tryz.sizeOf3
 v3:=Tryz.zeroValue3
 t4:=Tryz.underlying4
 a4:=Tryz.isAgg4
 z4:=Tryz.sizeOf4
 v4:=Tryz.zeroValue4
 t5:=Tryz.underlying5
 a5:=Tryz.isAgg5
 z5:=Tryz.sizeOf5
 v5:=Tryz.zeroValue5
 t9:=Tryz.underlying9
 a9:=Tryz.isAgg9
 z9:=Tryz.sizeOf9
 v9:=Tryz.zeroValue9
 t20:=Tryz.underlying20
 a20:=Tryz.isAgg20
 z20:=Tryz.sizeOf20
 v20:=Tryz.zeroValue20
 t21:=Tryz.underlying21
 a21:=Tryz.isAgg21
 z21:=Tryz.sizeOf21
 v21:=Tryz.zeroValue21
 t37:=Tryz.underlying78
 a37:=Tryz.isAgg78
 z37:=Tryz.sizeOf78
 v37:=Tryz.zeroValue78
 t46:=Tryz.underlying202
 a46:=Tryz.isAgg202
 z46:=Tryz.sizeOf202
 v46:=Tryz.zeroValue202
 t51:=Tryz.underlying222
 a51:=Tryz.isAgg222
 z51:=Tryz.sizeOf222
 v51:=Tryz.zeroValue222
 t53:=Tryz.underlying179
 a53:=Tryz.isAgg179
 z53:=Tryz.sizeOf179
 v53:=Tryz.zeroValue179
 t75:=Tryz.underlying83
 a75:=Tryz.isAgg83
 z75:=Tryz.sizeOf83
 v75:=Tryz.zeroValue83
 t76:=Tryz.underlying84
 a76:=Tryz.isAgg84
 z76:=Tryz.sizeOf84
 v76:=Tryz.zeroValue84
 t85:=Tryz.underlying231
 a85:=Tryz.isAgg231
 z85:=Tryz.sizeOf231
 v85:=Tryz.zeroValue231
 t127:=Tryz.underlying125
 a127:=Tryz.isAgg125
 z127:=Tryz.sizeOf125
 v127:=Tryz.zeroValue125
 t143:=Tryz.underlying260
 a143:=Tryz.isAgg260
 z143:=Tryz.sizeOf260
 v143:=Tryz.zeroValue260
 t145:=Tryz.underlying262
 a145:=Tryz.isAgg262
 z145:=Tryz.sizeOf262
 v145:=Tryz.zeroValue262
 t167:=Tryz.underlying230
 a167:=Tryz.isAgg230
 z167:=Tryz.sizeOf230
 v167:=Tryz.zeroValue230
 t168:=Tryz.underlying233
 a168:=Tryz.isAgg233
 z168:=Tryz.sizeOf233
 v168:=Tryz.zeroValue233
 t171:=Tryz.underlying178
 a171:=Tryz.isAgg178
 z171:=Tryz.sizeOf178
 v171:=Tryz.zeroValue178
 t173:=Tryz.underlying182
 a173:=Tryz.isAgg182
 z173:=Tryz.sizeOf182
 v173:=Tryz.zeroValue182
 t175:=Tryz.underlying246
 a175:=Tryz.isAgg246
 z175:=Tryz.sizeOf246
 v175:=Tryz.zeroValue246
 t210:=Tryz.underlying250
 a210:=Tryz.isAgg250
 z210:=Tryz.sizeOf250
 v210:=Tryz.zeroValue250
 t212:=Tryz.underlying221
 a212:=Tryz.isAgg221
 z212:=Tryz.sizeOf221
 v212:=Tryz.zeroValue221
 t213:=Tryz.underlying223
 a213:=Tryz.isAgg223
 z213:=Tryz.sizeOf223
 t232:=Tryz.underlying257
 a232:=Tryz.isAgg257
 z232:=Tryz.sizeOf257
 v232:=Tryz.zeroValue257
 t233:=Tryz.underlying258
 a233:=Tryz.isAgg258
 z233:=Tryz.sizeOf258
 v233:=Tryz.zeroValue258
 g15:=by kernel_rfl
 g16:=by kernel_rfl
 g17:=by kernel_rfl
 g18:=by kernel_rfl
 g19:=by kernel_rfl }
open Go.RowKit in
theorem Tryz.strconv_Atoi (s:ByteArray) (n:Int) (hl:s.size≤18) (h:Lib.atoi s.data.toList=some n) (w:World) :
  Calls Tryz.prog 114 #[.string s] w fun e w'=>e = .returned (.tuple #[.int .i64 n,.nilIface])∧∃t,w'=Lib.bytesWorld w 5 t:=Any.strconv_Atoi Tryz.lays172 s n hl h w
def Tryz.laysM171_ren:Go.Shelf.Ren:=⟨fun | 171=>37 | 243=>70 | 246=>100 | 283=>128 | 284=>129 | 285=>130 | 286=>131 | 129=>160 | 317=>159 | 318=>161 | 319=>162 | 320=>163 | 337=>180 | 338=>181 | n=>n,fun | 3=>3 | 9=>9 | 2=>2 | 4=>4 | 171=>178 | 0=>0 | 53=>179 | 37=>78 | 5=>5 | 173=>182 | 212=>221 | 51=>222 | 20=>20 | 213=>223 | 46=>202 | 232=>257 | 233=>258 | n=>n,fun | 17=>1 | 18=>6 | 19=>7 | n=>n⟩
theorem Tryz.laysM171:Go.Proofs.LaysM.n171 Tryz.prog Tryz.laysM171_ren:={
 mixed:=by kernel_rfl
 f129:=Tryz.func160.trans (congrArg some (by kernel_rfl))
 f171:=Tryz.func37.trans (congrArg some (by kernel_rfl))
 f243:=Tryz.func70.trans (congrArg some (by kernel_rfl))
 f246:=Tryz.func100.trans (congrArg some (by kernel_rfl))
 f283:=Tryz.func128.trans (congrArg some (by kernel_rfl))
 f284:=Tryz.func129.trans (congrArg some (by kernel_rfl))
 f285:=Tryz.func130.trans (congrArg some (by kernel_rfl))
 f286:=Tryz.func131.trans (congrArg some (by kernel_rfl))
 f317:=Tryz.func159.trans (congrArg some (by kernel_rfl))
 f318:=Tryz.func161.trans (congrArg some (by kernel_rfl))
 f319:=Tryz.func162.trans (congrArg some (by kernel_rfl))
 f320:=Tryz.func163.trans (congrArg some (by kernel_rfl))
 f337:=Tryz.func180.trans (congrArg some (by kernel_rfl))
 f338:=Tryz.func181.trans (congrArg some (by kernel_rfl))
 t0:=Tryz.underlying0
 a0:=Tryz.isAgg0
 z0:=Tryz.sizeOf0
 v0:=Tryz.zeroValue0
 t2:=Tryz.underlying2
 a2:=Tryz.isAgg2
 z2:=Tryz.sizeOf2
 v2:=Tryz.zeroValue2
 t3:=Tryz.underlying3
 a3:=Tryz.isAgg3
 z3:=Tryz.sizeOf3
 v3:=Tryz.zeroValue3
 t4:=Tryz.underlying4
 a4:=Tryz.isAgg4
 z4:=Tryz.sizeOf4
 v4:=Tryz.zeroValue4
 t5:=Tryz.underlying5
 a5:=Tryz.isAgg5
 z5:=Tryz.sizeOf5
 v5:=Tryz.zeroValue5
 t9:=Tryz.underlying9
 a9:=Tryz.isAgg9
 z9:=Tryz.sizeOf9
 v9:=Tryz.zeroValue9
 t20:=Tryz.underlying20
 a20:=Tryz.isAgg20
 z20:=Tryz.sizeOf20
 v20:=Tryz.zeroValue20
 t37:=Tryz.underlying78
 a37:=Tryz.isAgg78
 z37:=Tryz.sizeOf78
 v37:=Tryz.zeroValue78
 t46:=Tryz.underlying202
 a46:=Tryz.isAgg202
 z46:=Tryz.sizeOf202
 v46:=Tryz.zeroValue202
 t51:=Tryz.underlying222
 a51:=Tryz.isAgg222
 z51:=Tryz.sizeOf222
 v51:=Tryz.zeroValue222
 t53:=Tryz.underlying179
 a53:=Tryz.isAgg179
 z53:=Tryz.sizeOf179
 v53:=Tryz.zeroValue179
 t171:=Tryz.underlying178
 a171:=Tryz.isAgg178
 z171:=Tryz.sizeOf178
 v171:=Tryz.zeroValue178
 t173:=Tryz.underlying182
 a173:=Tryz.isAgg182
 z173:=Tryz.sizeOf182
 v173:=Tryz.zeroValue182
 t212:=Tryz.underlying221
 a212:=Tryz.isAgg221
 z212:=Tryz.sizeOf221
 v212:=Tryz.zeroValue221
 t213:=Tryz.underlying223
 a213:=Tryz.isAgg223
 z213:=Tryz.sizeOf223
 t232:=Tryz.underlying257
 a232:=Tryz.isAgg257
 z232:=Tryz.sizeOf257
 v232:=Tryz.zeroValue257
 t233:=Tryz.underlying258
 a233:=Tryz.isAgg258
 z233:=Tryz.sizeOf258
 v233:=Tryz.zeroValue258
 g17:=by kernel_rfl
 g18:=by kernel_rfl
 g19:=by kernel_rfl
 i0:=by kernel_rfl
 i2:=by kernel_rfl
 i3:=by kernel_rfl
 i4:=by kernel_rfl
 i5:=by kernel_rfl
 i9:=by kernel_rfl
 i20:=by kernel_rfl
 i37:=by kernel_rfl
 i46:=by kernel_rfl
 i51:=by kernel_rfl
 i53:=by kernel_rfl
 i171:=by kernel_rfl
 i173:=by kernel_rfl
 i212:=by kernel_rfl
 i232:=by kernel_rfl
 i233:=by kernel_rfl
 m17:=by kernel_rfl
 m18:=by kernel_rfl
 m19:=by kernel_rfl }
open Go.RowKit Go.Sort Go.Lib in
theorem Tryz.strconv_Itoa (n:Int) (h0 : -9223372036854775808≤n) (h1:n≤9223372036854775807) (w:World) (htab:Lib.TabIs Tryz.prog w "internal/strconv.uint64pow10" .u64 Lib.pow10Tab) :
  Calls Tryz.prog 37 #[.int .i64 n] w fun e w'=>e = .returned (.string ⟨(Lib.itoa n).toArray⟩)∧∃k os,w'=grow (w.drewN k) os:=Any.strconv_Itoa Tryz.laysM171 n h0 h1 w htab
def Tryz.laysC172_ren:Go.Shelf.Ren:=⟨fun | 172=>114 | 244=>146 | 245=>147 | 247=>169 | 279=>170 | 280=>171 | 281=>172 | 282=>173 | 287=>185 | 316=>186 | 171=>37 | 205=>187 | 321=>191 | 322=>192 | 243=>70 | 246=>100 | 283=>128 | 284=>129 | 285=>130 | 286=>131 | 129=>160 | 317=>159 | 318=>161 | 319=>162 | 320=>163 | 337=>180 | 338=>181 | n=>n,fun | 9=>9 | 3=>3 | 75=>83 | 76=>84 | 4=>4 | 5=>5 | 167=>230 | 37=>78 | 0=>0 | 85=>231 | 2=>2 | 168=>233 | 53=>179 | 175=>246 | 46=>202 | 210=>250 | 127=>125 | 145=>262 | 143=>260 | 21=>21 | 171=>178 | 173=>182 | 212=>221 | 51=>222 | 20=>20 | 213=>223 | 232=>257 | 233=>258 | 80=>89 | n=>n,fun | 15=>2 | 16=>3 | 17=>1 | 18=>6 | 19=>7 | n=>n⟩
theorem Tryz.laysC172:Go.Proofs.LaysC.n172 Tryz.prog Tryz.laysC172_ren:={
 mixed:=by kernel_rfl
 f129:=Tryz.func160.trans (congrArg some (by kernel_rfl))
 f171:=Tryz.func37.trans (congrArg some (by kernel_rfl))
 f172:=Tryz.func114.trans (congrArg some (by kernel_rfl))
 f205:=Tryz.func187.trans (congrArg some (by kernel_rfl))
 f243:=Tryz.func70.trans (congrArg some (by kernel_rfl))
 f244:=Tryz.func146.trans (congrArg some (by kernel_rfl))
 f245:=Tryz.func147.trans (congrArg some (by kernel_rfl))
 f246:=Tryz.func100.trans (congrArg some (by kernel_rfl))
 f247:=Tryz.func169.trans (congrArg some (by kernel_rfl))
 f279:=Tryz.func170.trans (congrArg some (by kernel_rfl))
 f280:=Tryz.func171.trans (congrArg some (by kernel_rfl))
 f281:=Tryz.func172.trans (congrArg some (by kernel_rfl))
 f282:=Tryz.func173.trans (congrArg some (by kernel_rfl))
 f283:=Tryz.func128.trans (congrArg some (by kernel_rfl))
 f284:=Tryz.func129.trans (congrArg some (by kernel_rfl))
 f285:=Tryz.func130.trans (congrArg some (by kernel_rfl))
 f286:=Tryz.func131.trans (congrArg some (by kernel_rfl))
 f287:=Tryz.func185.trans (congrArg some (by kernel_rfl))
 f316:=Tryz.func186.trans (congrArg some (by kernel_rfl))
 f317:=Tryz.func159.trans (congrArg some (by kernel_rfl))
 f318:=Tryz.func161.trans (congrArg some (by kernel_rfl))
 f319:=Tryz.func162.trans (congrArg some (by kernel_rfl))
 f320:=Tryz.func163.trans (congrArg some (by kernel_rfl))
 f321:=Tryz.func191.trans (congrArg some (by kernel_rfl))
 f322:=Tryz.func192.trans (congrArg some (by kernel_rfl))
 f337:=Tryz.func180.trans (congrArg some (by kernel_rfl))
 f338:=Tryz.func181.trans (congrArg some (by kernel_rfl))
 t0:=Tryz.underlying0
 a0:=Tryz.isAgg0
 z0:=Tryz.sizeOf0
 v0:=Tryz.zeroValue0
 t2:=Tryz.underlying2
 a2:=Tryz.isAgg2
 z2:=Tryz.sizeOf2
 v2:=Tryz.zeroValue2
 t3:=Tryz.underlying3
 a3:=Tryz.isAgg3
 z3:=Tryz.sizeOf3
 v3:=Tryz.zeroValue3
 t4:=Tryz.underlying4
 a4:=Tryz.isAgg4
 z4:=Tryz.sizeOf4
 v4:=Tryz.zeroValue4
 t5:=Tryz.underlying5
 a5:=Tryz.isAgg5
 z5:=Tryz.sizeOf5
 v5:=Tryz.zeroValue5
 t9:=Tryz.underlying9
 a9:=Tryz.isAgg9
 z9:=Tryz.sizeOf9
 v9:=Tryz.zeroValue9
 t20:=Tryz.underlying20
 a20:=Tryz.isAgg20
 z20:=Tryz.sizeOf20
 v20:=Tryz.zeroValue20
 t21:=Tryz.underlying21
 a21:=Tryz.isAgg21
 z21:=Tryz.sizeOf21
 v21:=Tryz.zeroValue21
 t37:=Tryz.underlying78
 a37:=Tryz.isAgg78
 z37:=Tryz.sizeOf78
 v37:=Tryz.zeroValue78
 t46:=Tryz.underlying202
 a46:=Tryz.isAgg202
 z46:=Tryz.sizeOf202
 v46:=Tryz.zeroValue202
 t51:=Tryz.underlying222
 a51:=Tryz.isAgg222
 z51:=Tryz.sizeOf222
 v51:=Tryz.zeroValue222
 t53:=Tryz.underlying179
 a53:=Tryz.isAgg179
 z53:=Tryz.sizeOf179
 v53:=Tryz.zeroValue179
 t75:=Tryz.underlying83
 a75:=Tryz.isAgg83
 z75:=Tryz.sizeOf83
 v75:=Tryz.zeroValue83
 t76:=Tryz.underlying84
 a76:=Tryz.isAgg84
 z76:=Tryz.sizeOf84
 v76:=Tryz.zeroValue84
 t85:=Tryz.underlying231
 a85:=Tryz.isAgg231
 z85:=Tryz.sizeOf231
 v85:=Tryz.zeroValue231
 t127:=Tryz.underlying125
 a127:=Tryz.isAgg125
 z127:=Tryz.sizeOf125
 v127:=Tryz.zeroValue125
 t143:=Tryz.underlying260
 a143:=Tryz.isAgg260
 z143:=Tryz.sizeOf260
 v143:=Tryz.zeroValue260
 t145:=Tryz.underlying262
 a145:=Tryz.isAgg262
 z145:=Tryz.sizeOf262
 v145:=Tryz.zeroValue262
 t167:=Tryz.underlying230
 a167:=Tryz.isAgg230
 z167:=Tryz.sizeOf230
 v167:=Tryz.zeroValue230
 t168:=Tryz.underlying233
 a168:=Tryz.isAgg233
 z168:=Tryz.sizeOf233
 v168:=Tryz.zeroValue233
 t171:=Tryz.underlying178
 a171:=Tryz.isAgg178
 z171:=Tryz.sizeOf178
 v171:=Tryz.zeroValue178
 t173:=Tryz.underlying182
 a173:=Tryz.isAgg182
 z173:=Tryz.sizeOf182
 v173:=Tryz.zeroValue182
 t175:=Tryz.underlying246
 a175:=Tryz.isAgg246
 z175:=Tryz.sizeOf246
 v175:=Tryz.zeroValue246
 t210:=Tryz.underlying250
 a210:=Tryz.isAgg250
 z210:=Tryz.sizeOf250
 v210:=Tryz.zeroValue250
 t212:=Tryz.underlying221
 a212:=Tryz.isAgg221
 z212:=Tryz.sizeOf221
 v212:=Tryz.zeroValue221
 t213:=Tryz.underlying223
 a213:=Tryz.isAgg223
 z213:=Tryz.sizeOf223
 t232:=Tryz.underlying257
 a232:=Tryz.isAgg257
 z232:=Tryz.sizeOf257
 v232:=Tryz.zeroValue257
 t233:=Tryz.underlying258
 a233:=Tryz.isAgg258
 z233:=Tryz.sizeOf258
 v233:=Tryz.zeroValue258
 g15:=by kernel_rfl
 g16:=by kernel_rfl
 g17:=by kernel_rfl
 g18:=by kernel_rfl
 g19:=by kernel_rfl
 t80:=Tryz.underlying89
 a80:=Tryz.isAgg89
 z80:=Tryz.sizeOf89
 v80:=Tryz.zeroValue89
 i0:=by kernel_rfl
 i2:=by kernel_rfl
 i3:=by kernel_rfl
 i4:=by kernel_rfl
 i5:=by kernel_rfl
 i9:=by kernel_rfl
 i20:=by kernel_rfl
 i21:=by kernel_rfl
 i37:=by kernel_rfl
 i46:=by kernel_rfl
 i51:=by kernel_rfl
 i53:=by kernel_rfl
 i75:=by kernel_rfl
 i76:=by kernel_rfl
 i80:=by kernel_rfl
 i85:=by kernel_rfl
 i127:=by kernel_rfl
 i143:=by kernel_rfl
 i145:=by kernel_rfl
 i167:=by kernel_rfl
 i168:=by kernel_rfl
 i171:=by kernel_rfl
 i173:=by kernel_rfl
 i175:=by kernel_rfl
 i210:=by kernel_rfl
 i212:=by kernel_rfl
 i232:=by kernel_rfl
 i233:=by kernel_rfl
 m15:=by kernel_rfl
 m16:=by kernel_rfl
 m17:=by kernel_rfl
 m18:=by kernel_rfl
 m19:=by kernel_rfl
 c0:=by kernel_rfl
 c2:=by kernel_rfl
 c3:=by kernel_rfl
 c4:=by kernel_rfl
 c5:=by kernel_rfl
 c9:=by kernel_rfl
 c20:=by kernel_rfl
 c21:=by kernel_rfl
 c37:=by kernel_rfl
 c46:=by kernel_rfl
 c51:=by kernel_rfl
 c53:=by kernel_rfl
 c75:=by kernel_rfl
 c76:=by kernel_rfl
 c80:=by kernel_rfl
 c85:=by kernel_rfl
 c127:=by kernel_rfl
 c143:=by kernel_rfl
 c145:=by kernel_rfl
 c167:=by kernel_rfl
 c168:=by kernel_rfl
 c171:=by kernel_rfl
 c173:=by kernel_rfl
 c175:=by kernel_rfl
 c210:=by kernel_rfl
 c212:=by kernel_rfl
 c213:=by kernel_rfl
 c232:=by kernel_rfl
 c233:=by kernel_rfl }
open Go.RowKit in
theorem Tryz.strconv_Atoi_err_var (s:ByteArray) (hl:s.size≤18) (h:Lib.atoi s.data.toList=none) (tp:TypeId) (p:Value) (w:World) (hvar:w.var? Tryz.prog "strconv.ErrSyntax" = some #[.iface tp p]) :
  Calls Tryz.prog 114 #[.string s] w fun e w'=>∃N,e = .returned (.tuple #[.int .i64 0,.iface 233 (.pointer (some ⟨N,0,none⟩))])∧w.heap.size≤N∧w'.heap[N]?=some (.cells #[.string ⟨#[65,116,111,105]⟩,.string s,.iface tp p] 250 (0,0))∧Below w.heap.size w w':=Any.strconv_Atoi_err_var Tryz.laysC172 s hl h tp p w hvar
open Go.RowKit in
theorem Tryz.strconv_Atoi_ok (s:ByteArray) (hmax:s.size≤9223372036854775806) (v:Int) (h:Lib.atoiAll s.data.toList = .ok v) (w:World) :
  Calls Tryz.prog 114 #[.string s] w fun e w'=>e = .returned (.tuple #[.int .i64 v,.nilIface])∧(w'=w∨∃t,w'=Lib.bytesWorld w 5 t):=Any.strconv_Atoi_ok Tryz.laysC172 s hmax v h w
open Go.RowKit in
theorem Tryz.strconv_Atoi_range_var (s:ByteArray) (hlim:s.size≤281474976710656) (h:Lib.atoiAll s.data.toList = .range) (tp:TypeId) (p:Value) (w:World) (hvar:w.var? Tryz.prog "strconv.ErrRange" = some #[.iface tp p]) :
  Calls Tryz.prog 114 #[.string s] w fun e w'=>∃N,e = .returned (.tuple #[.int .i64 (Lib.atoiSat s.data.toList),.iface 233 (.pointer (some ⟨N,0,none⟩))])∧w.heap.size≤N∧w'.heap[N]?=some (.cells #[.string ⟨#[65,116,111,105]⟩,.string s,.iface tp p] 250 (0,0))∧Below w.heap.size w w':=Any.strconv_Atoi_range_var Tryz.laysC172 s hlim h tp p w hvar
def Tryz.lays145_ren:Go.Shelf.Ren:=⟨fun | 145=>45 | 220=>77 | 219=>112 | 217=>141 | 225=>142 | 224=>143 | 267=>144 | 266=>167 | 314=>168 | n=>n,fun | 9=>9 | 4=>4 | 59=>93 | 3=>3 | 5=>5 | 46=>202 | 146=>228 | 51=>222 | n=>n,fun | 1=>0 | n=>n⟩
theorem Tryz.lays145:Go.Proofs.Lays.n145 Tryz.prog Tryz.lays145_ren:={
 mixed:=by kernel_rfl
 f145:=Tryz.func45.trans (congrArg some (by kernel_rfl))
 f217:=Tryz.func141.trans (congrArg some (by kernel_rfl))
 f219:=Tryz.func112.trans (congrArg some (by kernel_rfl))
 f220:=Tryz.func77.trans (congrArg some (by kernel_rfl))
 f224:=Tryz.func143.trans (congrArg some (by kernel_rfl))
 f225:=Tryz.func142.trans (congrArg some (by kernel_rfl))
 f266:=Tryz.func167.trans (congrArg some (by kernel_rfl))
 f267:=Tryz.func144.trans (congrArg some (by kernel_rfl))
 f314:=Tryz.func168.trans (congrArg some (by kernel_rfl))
 t3:=Tryz.underlying3
 a3:=Tryz.isAgg3
 z3:=Tryz.sizeOf3
 v3:=Tryz.zeroValue3
 t4:=Tryz.underlying4
 a4:=Tryz.isAgg4
 z4:=Tryz.sizeOf4
 v4:=Tryz.zeroValue4
 t5:=Tryz.underlying5
 a5:=Tryz.isAgg5
 z5:=Tryz.sizeOf5
 v5:=Tryz.zeroValue5
 t9:=Tryz.underlying9
 a9:=Tryz.isAgg9
 z9:=Tryz.sizeOf9
 v9:=Tryz.zeroValue9
 t46:=Tryz.underlying202
 a46:=Tryz.isAgg202
 z46:=Tryz.sizeOf202
 v46:=Tryz.zeroValue202
 t51:=Tryz.underlying222
 a51:=Tryz.isAgg222
 z51:=Tryz.sizeOf222
 v51:=Tryz.zeroValue222
 t59:=Tryz.underlying93
 a59:=Tryz.isAgg93
 z59:=Tryz.sizeOf93
 v59:=Tryz.zeroValue93
 t146:=Tryz.underlying228
 a146:=Tryz.isAgg228
 z146:=Tryz.sizeOf228
 v146:=Tryz.zeroValue228
 g1:=by kernel_rfl }
open Go.RowKit Go.Lib in
theorem Tryz.strings_Cut (s sep:ByteArray) (m:Int) (w:World) (hs:s.size<4294967281) (hm:w.cell? ⟨0,0,none⟩=some (.int .i64 m)) :
  Calls Tryz.prog 45 #[.string s,.string sep] w fun e w'=>e = .returned (.tuple #[.string ⟨(Lib.cut s.data.toList sep.data.toList).1.toArray⟩,.string ⟨(Lib.cut s.data.toList sep.data.toList).2.1.toArray⟩,.bool (Lib.cut s.data.toList sep.data.toList).2.2])∧∃n,w'=w.drewN n:=Any.strings_Cut Tryz.lays145 s sep m w hs hm
def Tryz.lays99_ren:Go.Shelf.Ren:=⟨fun | 99=>197 | 206=>145 | n=>n,fun | 9=>9 | 4=>4 | 3=>3 | n=>n,fun | n=>n⟩
theorem Tryz.lays99:Go.Proofs.Lays.n99 Tryz.prog Tryz.lays99_ren:={
 mixed:=by kernel_rfl
 f99:=Tryz.func197.trans (congrArg some (by kernel_rfl))
 f206:=Tryz.func145.trans (congrArg some (by kernel_rfl))
 t3:=Tryz.underlying3
 a3:=Tryz.isAgg3
 z3:=Tryz.sizeOf3
 v3:=Tryz.zeroValue3
 t4:=Tryz.underlying4
 a4:=Tryz.isAgg4
 z4:=Tryz.sizeOf4
 v4:=Tryz.zeroValue4
 t9:=Tryz.underlying9
 a9:=Tryz.isAgg9
 z9:=Tryz.sizeOf9
 v9:=Tryz.zeroValue9 }
open Go.RowKit Go.Lib in
theorem Tryz.strings_HasPrefix (s p:ByteArray) (w:World) :
  Calls Tryz.prog 197 #[.string s,.string p] w fun e w'=>e = .returned (.bool (Lib.hasPrefix s.data.toList p.data.toList))∧w'=w:=Any.strings_HasPrefix Tryz.lays99 s p w
def Tryz.lays101_ren:Go.Shelf.Ren:=⟨fun | 101=>200 | 208=>207 | 206=>145 | n=>n,fun | 9=>9 | 4=>4 | 3=>3 | n=>n,fun | n=>n⟩
theorem Tryz.lays101:Go.Proofs.Lays.n101 Tryz.prog Tryz.lays101_ren:={
 mixed:=by kernel_rfl
 f101:=Tryz.func200.trans (congrArg some (by kernel_rfl))
 f206:=Tryz.func145.trans (congrArg some (by kernel_rfl))
 f208:=Tryz.func207.trans (congrArg some (by kernel_rfl))
 t3:=Tryz.underlying3
 a3:=Tryz.isAgg3
 z3:=Tryz.sizeOf3
 v3:=Tryz.zeroValue3
 t4:=Tryz.underlying4
 a4:=Tryz.isAgg4
 z4:=Tryz.sizeOf4
 v4:=Tryz.zeroValue4
 t9:=Tryz.underlying9
 a9:=Tryz.isAgg9
 z9:=Tryz.sizeOf9
 v9:=Tryz.zeroValue9 }
open Go.RowKit Go.Lib in
theorem Tryz.strings_TrimPrefix (s p:ByteArray) (w:World) :
  Calls Tryz.prog 200 #[.string s,.string p] w fun e w'=>e = .returned (.string ⟨(Lib.trimPrefix s.data.toList p.data.toList).toArray⟩)∧w'=w:=Any.strings_TrimPrefix Tryz.lays101 s p w
def Tryz.lays102_ren:Go.Shelf.Ren:=⟨fun | 102=>51 | 209=>85 | 207=>122 | n=>n,fun | 9=>9 | 4=>4 | 3=>3 | n=>n,fun | n=>n⟩
theorem Tryz.lays102:Go.Proofs.Lays.n102 Tryz.prog Tryz.lays102_ren:={
 mixed:=by kernel_rfl
 f102:=Tryz.func51.trans (congrArg some (by kernel_rfl))
 f207:=Tryz.func122.trans (congrArg some (by kernel_rfl))
 f209:=Tryz.func85.trans (congrArg some (by kernel_rfl))
 t3:=Tryz.underlying3
 a3:=Tryz.isAgg3
 z3:=Tryz.sizeOf3
 v3:=Tryz.zeroValue3
 t4:=Tryz.underlying4
 a4:=Tryz.isAgg4
 z4:=Tryz.sizeOf4
 v4:=Tryz.zeroValue4
 t9:=Tryz.underlying9
 a9:=Tryz.isAgg9
 z9:=Tryz.sizeOf9
 v9:=Tryz.zeroValue9 }
open Go.RowKit Go.Lib in
theorem Tryz.strings_TrimSuffix (s p:ByteArray) (w:World) (hs:s.size≤9223372036854775807) :
  Calls Tryz.prog 51 #[.string s,.string p] w fun e w'=>e = .returned (.string ⟨(Lib.trimSuffix s.data.toList p.data.toList).toArray⟩)∧w'=w:=Any.strings_TrimSuffix Tryz.lays102 s p w hs
def Tryz.lays146_ren:Go.Shelf.Ren:=⟨fun | 146=>50 | 221=>84 | 268=>119 | 138=>120 | 143=>121 | 195=>151 | 197=>152 | 218=>153 | 219=>112 | 260=>178 | 217=>141 | 225=>142 | 224=>143 | 267=>144 | 266=>167 | 314=>168 | n=>n,fun | 9=>9 | 31=>67 | 3=>3 | 4=>4 | 0=>0 | 105=>209 | 21=>21 | 5=>5 | 46=>202 | 119=>253 | 139=>256 | 138=>255 | 146=>228 | 51=>222 | n=>n,fun | 1=>0 | 3=>4 | 4=>5 | n=>n⟩
theorem Tryz.lays146:Go.Proofs.Lays.n146 Tryz.prog Tryz.lays146_ren:={
 mixed:=by kernel_rfl
 f138:=Tryz.func120.trans (congrArg some (by kernel_rfl))
 f143:=Tryz.func121.trans (congrArg some (by kernel_rfl))
 f146:=Tryz.func50.trans (congrArg some (by kernel_rfl))
 f195:=Tryz.func151.trans (congrArg some (by kernel_rfl))
 f197:=Tryz.func152.trans (congrArg some (by kernel_rfl))
 f217:=Tryz.func141.trans (congrArg some (by kernel_rfl))
 f218:=Tryz.func153.trans (congrArg some (by kernel_rfl))
 f219:=Tryz.func112.trans (congrArg some (by kernel_rfl))
 f221:=Tryz.func84.trans (congrArg some (by kernel_rfl))
 f224:=Tryz.func143.trans (congrArg some (by kernel_rfl))
 f225:=Tryz.func142.trans (congrArg some (by kernel_rfl))
 f260:=Tryz.func178.trans (congrArg some (by kernel_rfl))
 f266:=Tryz.func167.trans (congrArg some (by kernel_rfl))
 f267:=Tryz.func144.trans (congrArg some (by kernel_rfl))
 f268:=Tryz.func119.trans (congrArg some (by kernel_rfl))
 f314:=Tryz.func168.trans (congrArg some (by kernel_rfl))
 t0:=Tryz.underlying0
 a0:=Tryz.isAgg0
 z0:=Tryz.sizeOf0
 v0:=Tryz.zeroValue0
 t3:=Tryz.underlying3
 a3:=Tryz.isAgg3
 z3:=Tryz.sizeOf3
 v3:=Tryz.zeroValue3
 t4:=Tryz.underlying4
 a4:=Tryz.isAgg4
 z4:=Tryz.sizeOf4
 v4:=Tryz.zeroValue4
 t5:=Tryz.underlying5
 a5:=Tryz.isAgg5
 z5:=Tryz.sizeOf5
 v5:=Tryz.zeroValue5
 t9:=Tryz.underlying9
 a9:=Tryz.isAgg9
 z9:=Tryz.sizeOf9
 v9:=Tryz.zeroValue9
 t21:=Tryz.underlying21
 a21:=Tryz.isAgg21
 z21:=Tryz.sizeOf21
 v21:=Tryz.zeroValue21
 t31:=Tryz.underlying67
 a31:=Tryz.isAgg67
 z31:=Tryz.sizeOf67
 v31:=Tryz.zeroValue67
 t46:=Tryz.underlying202
 a46:=Tryz.isAgg202
 z46:=Tryz.sizeOf202
 v46:=Tryz.zeroValue202
 t51:=Tryz.underlying222
 a51:=Tryz.isAgg222
 z51:=Tryz.sizeOf222
 v51:=Tryz.zeroValue222
 t105:=Tryz.underlying209
 a105:=Tryz.isAgg209
 z105:=Tryz.sizeOf209
 v105:=Tryz.zeroValue209
 t119:=Tryz.underlying253
 a119:=Tryz.isAgg253
 z119:=Tryz.sizeOf253
 t138:=Tryz.underlying255
 a138:=Tryz.isAgg255
 z138:=Tryz.sizeOf255
 v138:=Tryz.zeroValue255
 t139:=Tryz.underlying256
 a139:=Tryz.isAgg256
 z139:=Tryz.sizeOf256
 v139:=Tryz.zeroValue256
 t146:=Tryz.underlying228
 a146:=Tryz.isAgg228
 z146:=Tryz.sizeOf228
 v146:=Tryz.zeroValue228
 g1:=by kernel_rfl
 g3:=by kernel_rfl
 g4:=by kernel_rfl }
open Go.RowKit Go.Lib in
theorem Tryz.strings_Split (s sep:ByteArray) (m:Int) (w:World) (hs:s.size<4294967281) (hm:w.cell? ⟨0,0,none⟩=some (.int .i64 m)) (h1:1≤sep.size) :
  Calls Tryz.prog 50 #[.string s,.string sep] w fun e w' =>
   e = .returned (.slice (some ⟨w.heap.size,0,none⟩) (Lib.countB s sep+1) (Lib.countB s sep+1))∧w'=w.alloc (.cells ((Lib.splitB sep 0 (Lib.countB s sep) s).map Value.string).toArray 9):=Any.strings_Split Tryz.lays146 (by kernel_rfl) s sep m w hs hm h1
def Tryz.laysM146_ren:Go.Shelf.Ren:=⟨fun | 146=>50 | 221=>84 | 268=>119 | 138=>120 | 143=>121 | 195=>151 | 197=>152 | 218=>153 | 219=>112 | 260=>178 | 217=>141 | 225=>142 | 224=>143 | 267=>144 | 266=>167 | 314=>168 | n=>n,fun | 9=>9 | 31=>67 | 3=>3 | 4=>4 | 0=>0 | 105=>209 | 21=>21 | 5=>5 | 46=>202 | 119=>253 | 139=>256 | 138=>255 | 146=>228 | 51=>222 | n=>n,fun | 1=>0 | 3=>4 | 4=>5 | n=>n⟩
theorem Tryz.laysM146:Go.Proofs.LaysM.n146 Tryz.prog Tryz.laysM146_ren:={
 mixed:=by kernel_rfl
 f138:=Tryz.func120.trans (congrArg some (by kernel_rfl))
 f143:=Tryz.func121.trans (congrArg some (by kernel_rfl))
 f146:=Tryz.func50.trans (congrArg some (by kernel_rfl))
 f195:=Tryz.func151.trans (congrArg some (by kernel_rfl))
 f197:=Tryz.func152.trans (congrArg some (by kernel_rfl))
 f217:=Tryz.func141.trans (congrArg some (by kernel_rfl))
 f218:=Tryz.func153.trans (congrArg some (by kernel_rfl))
 f219:=Tryz.func112.trans (congrArg some (by kernel_rfl))
 f221:=Tryz.func84.trans (congrArg some (by kernel_rfl))
 f224:=Tryz.func143.trans (congrArg some (by kernel_rfl))
 f225:=Tryz.func142.trans (congrArg some (by kernel_rfl))
 f260:=Tryz.func178.trans (congrArg some (by kernel_rfl))
 f266:=Tryz.func167.trans (congrArg some (by kernel_rfl))
 f267:=Tryz.func144.trans (congrArg some (by kernel_rfl))
 f268:=Tryz.func119.trans (congrArg some (by kernel_rfl))
 f314:=Tryz.func168.trans (congrArg some (by kernel_rfl))
 t0:=Tryz.underlying0
 a0:=Tryz.isAgg0
 z0:=Tryz.sizeOf0
 v0:=Tryz.zeroValue0
 t3:=Tryz.underlying3
 a3:=Tryz.isAgg3
 z3:=Tryz.sizeOf3
 v3:=Tryz.zeroValue3
 t4:=Tryz.underlying4
 a4:=Tryz.isAgg4
 z4:=Tryz.sizeOf4
 v4:=Tryz.zeroValue4
 t5:=Tryz.underlying5
 a5:=Tryz.isAgg5
 z5:=Tryz.sizeOf5
 v5:=Tryz.zeroValue5
 t9:=Tryz.underlying9
 a9:=Tryz.isAgg9
 z9:=Tryz.sizeOf9
 v9:=Tryz.zeroValue9
 t21:=Tryz.underlying21
 a21:=Tryz.isAgg21
 z21:=Tryz.sizeOf21
 v21:=Tryz.zeroValue21
 t31:=Tryz.underlying67
 a31:=Tryz.isAgg67
 z31:=Tryz.sizeOf67
 v31:=Tryz.zeroValue67
 t46:=Tryz.underlying202
 a46:=Tryz.isAgg202
 z46:=Tryz.sizeOf202
 v46:=Tryz.zeroValue202
 t51:=Tryz.underlying222
 a51:=Tryz.isAgg222
 z51:=Tryz.sizeOf222
 v51:=Tryz.zeroValue222
 t105:=Tryz.underlying209
 a105:=Tryz.isAgg209
 z105:=Tryz.sizeOf209
 v105:=Tryz.zeroValue209
 t119:=Tryz.underlying253
 a119:=Tryz.isAgg253
 z119:=Tryz.sizeOf253
 t138:=Tryz.underlying255
 a138:=Tryz.isAgg255
 z138:=Tryz.sizeOf255
 v138:=Tryz.zeroValue255
 t139:=Tryz.underlying256
 a139:=Tryz.isAgg256
 z139:=Tryz.sizeOf256
 v139:=Tryz.zeroValue256
 t146:=Tryz.underlying228
 a146:=Tryz.isAgg228
 z146:=Tryz.sizeOf228
 v146:=Tryz.zeroValue228
 g1:=by kernel_rfl
 g3:=by kernel_rfl
 g4:=by kernel_rfl
 i0:=by kernel_rfl
 i3:=by kernel_rfl
 i4:=by kernel_rfl
 i5:=by kernel_rfl
 i9:=by kernel_rfl
 i21:=by kernel_rfl
 i31:=by kernel_rfl
 i46:=by kernel_rfl
 i51:=by kernel_rfl
 i105:=by kernel_rfl
 i138:=by kernel_rfl
 i139:=by kernel_rfl
 i146:=by kernel_rfl
 m1:=by kernel_rfl
 s1_3:=fun w h=>Go.Proofs.cell_of_shapedOpen_int (zero:=#[.int .i64 0]) (t:=3) h (of_decide_eq_true (by kernel_rfl)) (by kernel_rfl) rfl (by kernel_rfl) (by kernel_rfl) Tryz.underlying3
 m3:=by kernel_rfl
 m4:=by kernel_rfl }
def Tryz.lays152_ren:Go.Shelf.Ren:=⟨fun | 152=>202 | 137=>199 | 119=>210 | 224=>143 | 225=>142 | 217=>141 | 266=>167 | n=>n,fun | 9=>9 | 21=>21 | 3=>3 | 4=>4 | 5=>5 | 0=>0 | 46=>202 | n=>n,fun | n=>n⟩
theorem Tryz.lays152:Go.Proofs.Lays.n152 Tryz.prog Tryz.lays152_ren:={
 mixed:=by kernel_rfl
 f119:=Tryz.func210.trans (congrArg some (by kernel_rfl))
 f137:=Tryz.func199.trans (congrArg some (by kernel_rfl))
 f152:=Tryz.func202.trans (congrArg some (by kernel_rfl))
 f217:=Tryz.func141.trans (congrArg some (by kernel_rfl))
 f224:=Tryz.func143.trans (congrArg some (by kernel_rfl))
 f225:=Tryz.func142.trans (congrArg some (by kernel_rfl))
 f266:=Tryz.func167.trans (congrArg some (by kernel_rfl))
 t0:=Tryz.underlying0
 a0:=Tryz.isAgg0
 z0:=Tryz.sizeOf0
 v0:=Tryz.zeroValue0
 t3:=Tryz.underlying3
 a3:=Tryz.isAgg3
 z3:=Tryz.sizeOf3
 v3:=Tryz.zeroValue3
 t4:=Tryz.underlying4
 a4:=Tryz.isAgg4
 z4:=Tryz.sizeOf4
 v4:=Tryz.zeroValue4
 t5:=Tryz.underlying5
 a5:=Tryz.isAgg5
 z5:=Tryz.sizeOf5
 v5:=Tryz.zeroValue5
 t9:=Tryz.underlying9
 a9:=Tryz.isAgg9
 z9:=Tryz.sizeOf9
 v9:=Tryz.zeroValue9
 t21:=Tryz.underlying21
 a21:=Tryz.isAgg21
 z21:=Tryz.sizeOf21
 v21:=Tryz.zeroValue21
 t46:=Tryz.underlying202
 a46:=Tryz.isAgg202
 z46:=Tryz.sizeOf202
 v46:=Tryz.zeroValue202 }
open Go.RowKit Go.Lib in
theorem Tryz.strings_IndexRune_ascii (s:ByteArray) (r:Int) (w:World) (h0:0≤r) (h1:r<128) :
  Calls Tryz.prog 202 #[.string s,.int .i32 r] w fun e w'=>e = .returned (.int .i64 (Lib.indexByte s.data.toList r.toNat.toUInt8))∧w'=w:=Any.strings_IndexRune_ascii Tryz.lays152 s r w h0 h1
def Tryz.lays226_ren:Go.Shelf.Ren:=⟨fun | 226=>203 | n=>n,fun | 3=>3 | 4=>4 | n=>n,fun | n=>n⟩
theorem Tryz.lays226:Go.Proofs.Lays.n226 Tryz.prog Tryz.lays226_ren:={
 mixed:=by kernel_rfl
 f226:=Tryz.func203.trans (congrArg some (by kernel_rfl))
 t3:=Tryz.underlying3
 a3:=Tryz.isAgg3
 z3:=Tryz.sizeOf3
 v3:=Tryz.zeroValue3
 t4:=Tryz.underlying4
 a4:=Tryz.isAgg4
 z4:=Tryz.sizeOf4
 v4:=Tryz.zeroValue4 }
open Go.RowKit Go.Lib in
theorem Tryz.strings_shouldUseASCIISet (n:Int) (w:World) :
  Calls Tryz.prog 203 #[.int .i64 n] w fun e w'=>e = .returned (.bool (decide (8<n)))∧w'=w:=Any.strings_shouldUseASCIISet Tryz.lays226 n w
def Tryz.lays153_ren:Go.Shelf.Ren:=⟨fun | 153=>195 | 152=>202 | 226=>203 | 227=>204 | 228=>205 | 137=>199 | 119=>210 | 224=>143 | 225=>142 | 217=>141 | 266=>167 | n=>n,fun | 9=>9 | 3=>3 | 4=>4 | 5=>5 | 21=>21 | 117=>274 | 116=>273 | 0=>0 | 46=>202 | 124=>281 | n=>n,fun | n=>n⟩
theorem Tryz.lays153:Go.Proofs.Lays.n153 Tryz.prog Tryz.lays153_ren:={
 mixed:=by kernel_rfl
 f119:=Tryz.func210.trans (congrArg some (by kernel_rfl))
 f137:=Tryz.func199.trans (congrArg some (by kernel_rfl))
 f152:=Tryz.func202.trans (congrArg some (by kernel_rfl))
 f153:=Tryz.func195.trans (congrArg some (by kernel_rfl))
 f217:=Tryz.func141.trans (congrArg some (by kernel_rfl))
 f224:=Tryz.func143.trans (congrArg some (by kernel_rfl))
 f225:=Tryz.func142.trans (congrArg some (by kernel_rfl))
 f226:=Tryz.func203.trans (congrArg some (by kernel_rfl))
 f227:=Tryz.func204.trans (congrArg some (by kernel_rfl))
 f228:=Tryz.func205.trans (congrArg some (by kernel_rfl))
 f266:=Tryz.func167.trans (congrArg some (by kernel_rfl))
 t0:=Tryz.underlying0
 a0:=Tryz.isAgg0
 z0:=Tryz.sizeOf0
 v0:=Tryz.zeroValue0
 t3:=Tryz.underlying3
 a3:=Tryz.isAgg3
 z3:=Tryz.sizeOf3
 v3:=Tryz.zeroValue3
 t4:=Tryz.underlying4
 a4:=Tryz.isAgg4
 z4:=Tryz.sizeOf4
 v4:=Tryz.zeroValue4
 t5:=Tryz.underlying5
 a5:=Tryz.isAgg5
 z5:=Tryz.sizeOf5
 v5:=Tryz.zeroValue5
 t9:=Tryz.underlying9
 a9:=Tryz.isAgg9
 z9:=Tryz.sizeOf9
 v9:=Tryz.zeroValue9
 t21:=Tryz.underlying21
 a21:=Tryz.isAgg21
 z21:=Tryz.sizeOf21
 v21:=Tryz.zeroValue21
 t46:=Tryz.underlying202
 a46:=Tryz.isAgg202
 z46:=Tryz.sizeOf202
 v46:=Tryz.zeroValue202
 t116:=Tryz.underlying273
 a116:=Tryz.isAgg273
 z116:=Tryz.sizeOf273
 t117:=Tryz.underlying274
 a117:=Tryz.isAgg274
 z117:=Tryz.sizeOf274
 v117:=Tryz.zeroValue274
 t124:=Tryz.underlying281
 a124:=Tryz.isAgg281
 z124:=Tryz.sizeOf281
 v124:=Tryz.zeroValue281 }
open Go.RowKit Go.Lib in
theorem Tryz.strings_IndexAny_long (hv116:∀w,(zeroValue 273).run Tryz.prog w = .ok (.agg (Array.replicate 256 (.bool false))) w) (s chars:ByteArray) (w:World) (h2:2≤chars.size) (h8:8<s.size) (hs:s.size<4294967281) (hcs:chars.size<4294967281) (hascii:∀(j:Nat) b,chars.data.toList[j]?=some b→b.toNat<128) :
  Calls Tryz.prog 195 #[.string s,.string chars] w fun e w'=>e = .returned (.int .i64 (Lib.indexAny s.data.toList chars.data.toList))∧w'=((w.alloc (.cells (Lib.setCells chars.data.toList) 273)).alloc (.cells (Lib.setCells chars.data.toList) 273)):=Any.strings_IndexAny_long Tryz.lays153 hv116 (by kernel_rfl) s chars w h2 h8 hs hcs hascii
def Tryz.lays212_ren:Go.Shelf.Ren:=⟨fun | 212=>201 | 263=>208 | 264=>209 | n=>n,fun | 46=>202 | 51=>222 | 146=>228 | 53=>179 | 148=>278 | n=>n,fun | n=>n⟩
theorem Tryz.lays212:Go.Proofs.Lays.n212 Tryz.prog Tryz.lays212_ren:={
 mixed:=by kernel_rfl
 f212:=Tryz.func201.trans (congrArg some (by kernel_rfl))
 f263:=Tryz.func208.trans (congrArg some (by kernel_rfl))
 f264:=Tryz.func209.trans (congrArg some (by kernel_rfl))
 t46:=Tryz.underlying202
 a46:=Tryz.isAgg202
 z46:=Tryz.sizeOf202
 v46:=Tryz.zeroValue202
 t51:=Tryz.underlying222
 a51:=Tryz.isAgg222
 z51:=Tryz.sizeOf222
 v51:=Tryz.zeroValue222
 t53:=Tryz.underlying179
 a53:=Tryz.isAgg179
 z53:=Tryz.sizeOf179
 v53:=Tryz.zeroValue179
 t146:=Tryz.underlying228
 a146:=Tryz.isAgg228
 z146:=Tryz.sizeOf228
 v146:=Tryz.zeroValue228
 t148:=Tryz.underlying278
 a148:=Tryz.isAgg278
 z148:=Tryz.sizeOf278
 v148:=Tryz.zeroValue278 }
open Go.RowKit Go.Lib in
theorem Tryz.bits_Mul (x y:Nat) (hx:x<18446744073709551616) (hy:y<18446744073709551616) (w:World) :
  Calls Tryz.prog 201 #[.int .u64 x,.int .u64 y] w fun e w'=>e = .returned (.tuple #[.int .u64 ((x*y / 18446744073709551616:Nat):Int),.int .u64 ((x*y % 18446744073709551616:Nat):Int)])∧w'=w:=Any.bits_Mul Tryz.lays212 x y hx hy w
end Go.Proofs
/- What the library's variables hold,and that it stays so;the builder of a row that lists variables,with the world's shape. -/
namespace Go.Proofs.YtkneghkbgingdaaGreatDoor
set_option maxRecDepth 100000
open Go.ChangeShapes Go.WideShapes Go.ChangeAt Go.RowKit
structure Glob (w:World):Prop where
 tab:Lib.TabIs Tryz.prog w "internal/strconv.uint64pow10" .u64 Lib.pow10Tab
 syn:∃tp p,w.var? Tryz.prog "strconv.ErrSyntax" = some #[.iface tp p]
 rng:∃tp p,w.var? Tryz.prog "strconv.ErrRange" = some #[.iface tp p]
 max:∃m,w.cell? ⟨0,0,none⟩=some (.int .i64 m)
theorem zgl {P:Program} {w w':World} {n:String} {cs:Array Value} (hb:Ext w w') (hv:w.var? P n=some cs):w'.var? P n=some cs:=by
 unfold World.var? at hv ⊢
 obtain ⟨g,h1,h2⟩:=ZM.1 hv
 rw [h1,ZA]
 have hlt:g<w.heap.size:=by
  rcases Z1 g w.heap.size with h | h
  ·exact h
  ·rw [Array.getElem?_eq_none h] at h2;cases h2
 rw [hb.block g hlt]
 exact h2
theorem Glob.ext {w w':World} (h:Glob w) (hb:Ext w w'):Glob w':=by
 obtain ⟨h1,⟨t1,p1,h2⟩,⟨t2,p2,h3⟩,⟨m,h4⟩⟩:=h
 exact ⟨zgl hb h1,⟨t1,p1,zgl hb h2⟩,⟨t2,p2,zgl hb h3⟩,⟨m,(Zm (p:=⟨0,0,none⟩) hb (Zo w _ h4)).trans h4⟩⟩
section
variable {H:Type} {enc:TypeId×Value→H}
theorem zbI {a:Assume} {C:Checked} {os:Os} {f:FuncId} {fn:Func} {s:ChangeSpec} {conds:List PathCond} {apart fresh handsOn again:Bool} {X:World→Array Value→Prop}
  (hX:∀(w w':World) (args:Array Value),w.heap=w'.heap→X w args→X w' args) (own:ownKnob C.prog.godebug=none) (started:os.Started) (noInit:C.prog.inits.idxOf? f=none) (hfn:C.prog.funcs[f]?=some fn)
  (wit:∃(w:World) (tape:Tape) (i:Input),w.os=os∧(w.forCall tape i).Shaped C.prog∧i.vars=[]∧Input.okWide C.prog (w.forCall tape i) .any w.heap.size f i ∧
   ((s.pre enc C.prog fn conds apart (w.forCall tape i).memory i.args∧X (w.forCall tape i).memory i.args)∧sizedMet enc C.prog fn (OpenSpec.ofChange s) apart (w.forCall tape i).memory i.args)∧a.holds C.prog (lone (Frame.enter C.prog f i.args .normal) [] (w.forCall tape i)))
  (body:∀(W:World) (base:Nat) (args:Array Value) (ds gs:List (DataW H)) (before:List MemPlace),(∀(j:Nat) t v,fn.params[j]?=some t→args[j]?=some v→Value.okWide C.prog W .any base t v) →
   DataW.Whole enc C.prog fn.params.toList s.vars apart W args.toList ds gs before→X W args→W.ShapedOpen C.prog →
   Calls C.prog f args W fun e W'=>∃v,e = .returned v∧s.post enc C.prog fn apart fresh handsOn again W args v W') :
  ReturnsInHanded a C os f .any (fun w args=>(s.pre enc C.prog fn conds apart w args∧X w args)∧sizedMet enc C.prog fn (OpenSpec.ofChange s) apart w args) (s.post enc C.prog fn apart fresh handsOn again):=by
 refine returnsInHanded_of_calls own started noInit wit ?_
 intro w tape i _ hsh _ hok hpre _
 obtain ⟨_,_,_,fn',hfn',_,_,_,_,hval⟩:=hok
 obtain rfl:fn'=fn:=ZV (hfn'.symm.trans hfn)
 obtain ⟨⟨⟨ds,gs,before,hw,_⟩,hx⟩,_⟩:=hpre
 refine (body (w.forCall tape i) w.heap.size i.args ds gs before hval (DataW.Whole.of_heap (w':=w.forCall tape i) (by rfl) hw) (hX _ _ _ (by rfl) hx) hsh).mono fun e W' ⟨v,he,hp⟩=>?_
 subst he
 exact ChangeSpec.post_blind hp
end
end Go.Proofs.YtkneghkbgingdaaGreatDoor
/- The library's words on strings and numbers,read in the words of the stitches' texts. -/
namespace Go.Proofs.YtkneghkbgingdaaGreatDoor
set_option maxRecDepth 100000
open Go
theorem zgF {n:Nat} (h:n<10):dg n=UInt8.ofNat (48+n):=by rw [dg,Nat.mod_eq_of_lt h]
theorem zgD:∀(f n:Nat),n<10 ^ (f+1)→decF (f+1) n=Lib.decDigits n:=by
 intro f
 induction f with
 | zero =>
  intro n h
  have h:n<10:=by simpa using h
  rw [Lib.decDigits,dif_pos h,decF,if_pos h,zgF h]
 | succ f ih =>
  intro n h
  rw [Lib.decDigits,decF]
  by_cases hn:n<10
  ·rw [dif_pos hn,if_pos hn,zgF hn]
  ·rw [dif_neg hn,if_neg hn,ih (n / 10) (by rw [Nat.pow_succ] at h;omega),zgF (Nat.mod_lt _ (by omega))]
theorem zkh:∀(f n:Nat),(decF f n).length≤f:=by
 intro f
 induction f with
 | zero=>intro n;simp [decF]
 | succ f ih =>
  intro n
  rw [decF]
  split
  ·simp
  ·have:=ih (n / 10)
   simp only [Zh,Zk,List.length_nil]
   omega
theorem zae (n:Nat):(decD n).length≤20:=zkh 20 n
theorem zmh {n:Nat} (h:n<10 ^ 20):Lib.decDigits n=decD n:=(zgD 19 n h).symm
theorem zkL {n:Int} (h0:0≤n) (h1:n≤1000000000000):Lib.itoa n=decD n.toNat:=by
 rw [Lib.itoa,if_neg (by omega),zmh (by omega)]
theorem zbw (c x:UInt8) (l:List UInt8):Lib.index (x::l) [c]=if c=x then 0 else if Lib.index l [c] == -1 then -1 else Lib.index l [c]+1:=by
 rw [Lib.index]
 by_cases h:c=x <;> simp [h,List.isPrefixOf]
theorem zd6 (c:UInt8):Lib.index [] [c] = -1:=rfl
theorem zph (c:UInt8):∀(m:Nat) (l:List UInt8),l.length≤m→Lib.splitK [c] 0 (Lib.count l [c]) l=spl c l:=by
 intro m
 induction m with
 | zero =>
  intro l h
  obtain rfl:l=[]:=ZQ (by omega)
  rw [Lib.count_miss (zd6 c)]
  rfl
 | succ m ih =>
  intro l h
  rcases hi:l with _ | ⟨x,t⟩
  ·rw [Lib.count_miss (zd6 c)];rfl
  ·subst hi
   by_cases hx:x=c
   ·subst hx
    have h0:Lib.index (x::t) [x]=(0:Nat):=by rw [zbw];simp
    rw [Lib.count_hit (by simp) h0,Nat.add_comm 1,Lib.splitK,h0]
    have h2:=ih t (by simpa using h)
    have h3:∀a:List UInt8,(List.drop ([x]:List UInt8).length (x::a))=a:=fun _=>rfl
    simp [h2,spl]
   ·have hcx:¬c=x:=fun e=>hx e.symm
    rw [spl,if_neg hx]
    rcases Lib.index_spec t [c] with ⟨hm,_⟩ | ⟨i,hm,_⟩
    ·have h1:Lib.index (x::t) [c] = -1:=by rw [zbw,if_neg hcx,hm];rfl
     have ht:t.length≤m:=by simpa using h
     have h2:=ih t ht
     rw [Lib.count_miss hm] at h2
     rw [Lib.count_miss h1,←h2]
     rfl
    ·have h1:Lib.index (x::t) [c]=((i+1:Nat):Int):=by
      rw [zbw,if_neg hcx,hm,if_neg (by first | (simp;done) | (simp;omega))];rfl
     have ht:t.length≤m:=by simpa using h
     have h2:=ih t ht
     rw [Lib.count_hit (by simp) hm,Nat.add_comm 1,Lib.splitK,hm,if_neg (by first | (simp;done) | (simp;omega))] at h2
     rw [Lib.count_hit (by simp) h1,Nat.add_comm 1,Lib.splitK,h1,if_neg (by first | (simp;done) | (simp;omega)),←h2]
     simp only [Int.toNat_natCast,Nat.add_zero,List.take_succ_cons,Zk,List.length_nil,List.drop_succ_cons,Nat.zero_add]
theorem zfk (c x:UInt8) (t:List UInt8):(spl c (x::t)).length=if x=c then (spl c t).length+1 else (spl c t).length:=by
 rw [spl]
 split
 ·simp
 ·have:=zbZ c t
  rcases h:spl c t with _ | ⟨y,r⟩
  ·exact absurd h this
  ·simp
theorem zdn (c:UInt8):∀(m:Nat) (l:List UInt8),l.length≤m→(spl c l).length=Lib.count l [c]+1:=by
 intro m
 induction m with
 | zero =>
  intro l h
  obtain rfl:l=[]:=ZQ (by omega)
  rw [Lib.count_miss (zd6 c)]
  rfl
 | succ m ih =>
  intro l h
  rcases hi:l with _ | ⟨x,t⟩
  ·rw [Lib.count_miss (zd6 c)];rfl
  ·subst hi
   have h2:=ih t (by simpa using h)
   rw [zfk]
   by_cases hx:x=c
   ·subst hx
    have h0:Lib.index (x::t) [x]=(0:Nat):=by rw [zbw];simp
    have h3:=Lib.count_hit (by simp) h0
    rw [if_pos rfl,h2,h3]
    simp
    omega
   ·have hcx:¬c=x:=fun e=>hx e.symm
    rw [if_neg hx,h2]
    rcases Lib.index_spec t [c] with ⟨hm,_⟩ | ⟨i,hm,_⟩
    ·have h1:Lib.index (x::t) [c] = -1:=by rw [zbw,if_neg hcx,hm];rfl
     rw [Lib.count_miss hm,Lib.count_miss h1]
    ·have h1:Lib.index (x::t) [c]=((i+1:Nat):Int):=by
      rw [zbw,if_neg hcx,hm,if_neg (by first | (simp;done) | (simp;omega))];rfl
     rw [Lib.count_hit (by simp) hm,Lib.count_hit (by simp) h1]
     simp
theorem zfn (c:UInt8) (s:ByteArray):(Lib.splitB ⟨#[c]⟩ 0 (Lib.countB s ⟨#[c]⟩) s).map (·.data.toList)=spl c s.data.toList:=by
 rw [Lib.splitB_data]
 exact zph c _ _ (Zf _)
theorem zkN (c:UInt8):∀(ws:List (List UInt8)),Lib.join ws [c]=joinB c ws:=by
 intro ws
 induction ws with
 | nil=>rfl
 | cons x ws ih =>
  cases ws with
  | nil=>simp [Lib.join_one,joinB]
  | cons y ws =>
   rw [Lib.join_cons]
   rw [Lib.join_cons] at ih
   rw [joinB,←ih]
   simp [Lib.joinTail]
theorem zdA {c:UInt8} (h:isDg c=true):48≤c.toNat∧c.toNat≤57:=by
 simp only [isDg,Zs,Zx,UInt8.le_iff_toNat_le] at h
 exact h
theorem zfK:∀(l:List UInt8) (acc:Nat),l.all isDg=true→Lib.decFrom acc l=some (l.foldl (fun v c=>10*v+(c.toNat-48)) acc):=by
 intro l
 induction l with
 | nil=>intro acc _;rfl
 | cons c r ih =>
  intro acc h
  have h1:isDg c=true∧r.all isDg=true:=by simpa using h
  rw [Lib.decFrom,Lib.digitVal,if_pos (zdA h1.1)]
  simp only
  rw [ih _ h1.2,List.foldl_cons,Nat.mul_comm acc 10]
theorem zc5 {l:List UInt8} (h:l.all isDg=true) (hl:l≠[]):Lib.atoi l=some (valD l:Int):=by
 rcases l with _ | ⟨c,r⟩
 ·exact absurd rfl hl
 ·have h1:isDg c=true∧r.all isDg=true:=by simpa using h
  have h2:=zdA h1.1
  have h3:(c==45)=false:=by
   rw [Ze]
   rintro rfl
   simp at h2
  have h4:(c==43)=false:=by
   rw [Ze]
   rintro rfl
   simp at h2
  rw [Lib.atoi,h3,h4]
  have h5:Lib.decNat (c::r)=some (valD (c::r)):=by
   rw [Lib.decNat,List.isEmpty_cons,if_neg (by simp),zfK _ 0 h]
   rfl
  rw [h5]
  rfl
theorem zkF:∀(k:Nat) (l:List UInt8),headD k l≤k∧headD k l≤l.length∧(l.take (headD k l)).all isDg=true:=by
 intro k
 induction k with
 | zero=>intro l;simp [headD]
 | succ k ih =>
  intro l
  cases l with
  | nil=>simp [headD]
  | cons c r =>
   obtain ⟨h1,h2,h3⟩:=ih r
   rw [headD]
   split
   ·rename_i hc
    refine ⟨by omega,by simp only [Zk];omega,?_⟩
    rw [List.take_succ_cons,List.all_cons,hc,h3];rfl
   ·simp
theorem zhn {k:Nat}:∀ {l:List UInt8} {n:Nat},n≤headD k l→(n<headD k l↔n<k∧n<l.length∧isDg (l.getD n 0)=true):=by
 induction k with
 | zero=>intro l n h;simp [headD] at h ⊢
 | succ k ih =>
  intro l n h
  cases l with
  | nil=>simp [headD] at h ⊢
  | cons c r =>
   rw [headD] at h ⊢
   by_cases hc:isDg c=true
   ·rw [if_pos hc] at h ⊢
    cases n with
    | zero=>simp [hc]
    | succ n =>
     have:=ih (l:=r) (n:=n) (by omega)
     simp only [List.getD_cons_succ,Zk,Nat.add_lt_add_iff_right]
     exact this
   ·rw [if_neg hc] at h ⊢
    obtain rfl:n=0:=by omega
    simp [hc]
theorem zm9:∀(l:List UInt8) (acc:Nat),l.all isDg=true→l.foldl (fun v c=>10*v+(c.toNat-48)) acc<(acc+1)*10 ^ l.length:=by
 intro l
 induction l with
 | nil=>intro acc _;simp
 | cons c r ih =>
  intro acc h
  have h1:isDg c=true∧r.all isDg=true:=by simpa using h
  have h2:=zdA h1.1
  have h3:=ih (10*acc+(c.toNat-48)) h1.2
  rw [List.foldl_cons,Zk,Nat.pow_succ]
  refine Zt h3 ?_
  rw [Nat.mul_comm (10 ^ r.length) 10,←Nat.mul_assoc]
  exact Nat.mul_le_mul_right _ (by omega)
theorem zcF {l:List UInt8} (h:l.all isDg=true) (hl:l.length≤4):valD l<10000:=by
 have h1:=zm9 l 0 h
 have h2:10 ^ l.length≤10 ^ 4:=Nat.pow_le_pow_right (by omega) hl
 unfold valD
 omega
end Go.Proofs.YtkneghkbgingdaaGreatDoor
/- The library's functions that the stitches' texts call,in the words of this claim. -/
namespace Go.Proofs.YtkneghkbgingdaaGreatDoor
set_option maxRecDepth 100000
open Go.RowKit
theorem zaG (l:List UInt8):(⟨l.toArray⟩:ByteArray).data.toList=l:=by simp
theorem zaH (l:List UInt8):(⟨l.toArray⟩:ByteArray).size=l.length:=by simp [ByteArray.size]
theorem zag (a b:List UInt8):(⟨a.toArray⟩++⟨b.toArray⟩:ByteArray)=⟨(a++b).toArray⟩:=by
 apply ByteArray.ext
 simp
theorem zap (l:List UInt8) (k:Nat):(⟨l.toArray⟩:ByteArray).extract 0 k=⟨(l.take k).toArray⟩:=by
 apply ByteArray.ext
 apply Array.toList_inj.1
 rw [Lib.extract_from_zero]
theorem zah (l:List UInt8) (k n:Nat) (h:l.length≤n):(⟨l.toArray⟩:ByteArray).extract k n=⟨(l.drop k).toArray⟩:=by
 apply ByteArray.ext
 apply Array.toList_inj.1
 rw [Lib.extract_data]
 exact Zz (by simp;omega)
theorem zao (l:List UInt8) (k:Nat) (h:k<(⟨l.toArray⟩:ByteArray).size):(⟨l.toArray⟩:ByteArray)[k]=l.getD k 0:=by
 have h2:k<l.length:=by simpa [ByteArray.size] using h
 rw [Zc,Zg h2]
 rfl
theorem zaf (n:Int) (h0:0≤n) (h1:n≤1000000000000) (w:World) (hg:Glob w) :
  Calls Tryz.prog 37 #[.int .i64 n] w fun e w'=>e = .returned (.string ⟨(decD n.toNat).toArray⟩)∧Ext w w':=by
 refine (Tryz.strconv_Itoa n (by omega) (by omega) w hg.tab).mono ?_
 rintro e w' ⟨rfl,k,os,rfl⟩
 exact ⟨by rw [zkL h0 h1],Lib.below_grow _ _ (Zf _) _ _⟩
theorem zc6 (l:List UInt8) (hl:l.length≤4) (h:l.all isDg=true) (h0:l≠[]) (w:World) :
  Calls Tryz.prog 114 #[.string ⟨l.toArray⟩] w fun e w'=>e = .returned (.tuple #[.int .i64 (valD l:Int),.nilIface])∧Ext w w':=by
 refine (Tryz.strconv_Atoi ⟨l.toArray⟩ (valD l:Int) (by rw [zaH];omega) (by rw [zaG];exact zc5 h h0) w).mono ?_
 rintro e w' ⟨rfl,t,rfl⟩
 exact ⟨rfl,Lib.bytesWorld_below _ _ _⟩
theorem zdS (w:World) (hg:Glob w) :
  Calls Tryz.prog 114 #[.string ⟨#[]⟩] w fun e w'=>(∃te p,e = .returned (.tuple #[.int .i64 0,.iface te (.pointer (some p))]))∧Ext w w':=by
 obtain ⟨tp,p,hv⟩:=hg.syn
 refine (Tryz.strconv_Atoi_err_var ⟨#[]⟩ (by simp [ByteArray.size]) rfl tp p w hv).mono ?_
 rintro e w' ⟨N,rfl,_,_,hb⟩
 exact ⟨⟨_,_,rfl⟩,hb⟩
theorem zbg (w:World) (hg:Glob w) :
  Calls Tryz.prog 114 #[.string ByteArray.empty] w fun e w'=>(∃te p,e = .returned (.tuple #[.int .i64 0,.iface te (.pointer (some p))]))∧Ext w w':=zdS w hg
def shStr:Shp (List UInt8) where
 size:=1
 cells x:=[.string ⟨x.toArray⟩]
 pos:=by omega
 len _:=rfl
 one x u h:=by
  simp at h
  subst h
  rfl
theorem zbx:(Tryz.prog.info? 9).map (fun i=>(i.zero,i.size,i.bytes))=some (some (.string ⟨#[]⟩),1,16):=by kernel_rfl
theorem zZ5 {p:Prop} (h:p:=by
 have hi:i=0:=by
  rcases i with _ | i
  ·rfl
  ·simp [shStr] at hu
 subst hi
 have hu2:u = .string ⟨x.toArray⟩:=by simp [shStr] at hu;exact hu.symm
 subst hu2
 have h1:(w.alloc (.cells ((Lib.splitB ⟨#[c]⟩ 0 (Lib.countB ⟨l.toArray⟩ ⟨#[c]⟩) ⟨l.toArray⟩).map Value.string).toArray 9)).heap[w.heap.size]?=some (.cells ((Lib.splitB ⟨#[c]⟩ 0 (Lib.countB ⟨l.toArray⟩ ⟨#[c]⟩) ⟨l.toArray⟩).map Value.string).toArray 9):=heap_alloc_new w _
 rw [cell_of_row _ w.heap.size _ _ 9 (0,0) h1]
 rw [←hs,List.getElem?_map] at hx
 obtain ⟨y,hy,rfl⟩:=ZF.1 hx
 simp [hy,shStr]):p:=h
theorem zfm (l:List UInt8) (c:UInt8) (hl:l.length≤100000) (w:World) (hg:Glob w) :
  Calls Tryz.prog 50 #[.string ⟨l.toArray⟩,.string ⟨#[c]⟩] w fun e w'=>∃g n,e = .returned (.slice (some ⟨g,0,none⟩) n n)∧Ext w w'∧Vec shStr w' (some ⟨g,0,none⟩) n (spl c l):=by
 obtain ⟨m,hm⟩:=hg.max
 refine (Tryz.strings_Split ⟨l.toArray⟩ ⟨#[c]⟩ m w (by rw [zaH];omega) hm (by simp [ByteArray.size])).mono ?_
 rintro e w' ⟨rfl,rfl⟩
 have hs:=zfn c ⟨l.toArray⟩
 rw [zaG] at hs
 have hlen:(spl c l).length=Lib.countB ⟨l.toArray⟩ ⟨#[c]⟩+1:=by
  rw [zdn c _ l (Zf _),Lib.countB,zaG]
 refine ⟨w.heap.size,_,rfl,(Zd _).alloc _,hlen,fun _=>⟨w.heap.size,0,rfl,by simp,fun k x hx i u hu=>?_⟩⟩
 exact zZ5
theorem zgJ:∀(ws:List (List UInt8)),ws.flatMap shStr.cells=ws.map (fun l=>Value.string ⟨l.toArray⟩):=by
 intro ws
 induction ws with
 | nil=>rfl
 | cons x ws ih=>rw [List.flatMap_cons,ih];rfl
theorem zkM (B n c:Nat) (A:Option Addr) (ws:List (List UInt8)) (d:UInt8) (e:TypeId) (w:World) (hv:OwnV shStr w B e (.slice A n c) n ws) (hl:(joinB d ws).length≤100000000) (hws:n≤100000000) :
  Calls Tryz.prog 183 #[.slice A n c,.string ⟨#[d]⟩] w fun e w'=>e = .returned (.string ⟨(joinB d ws).toArray⟩)∧Ext w w':=by
 have hn:ws.length=n:=OwnV.len hv
 rcases hv.2 with ⟨h0,h1⟩ | ⟨g,cap,cur,h0,hB,hg,hnc,hcm,hsz,hcur⟩
 ·cases h0
  obtain rfl:ws=[]:=ZQ hn
  refine (Tryz.strings_Join_none none 0 ⟨#[d]⟩ w).mono ?_
  rintro e w' ⟨rfl,rfl⟩
  exact ⟨rfl,Zd _⟩
 ·cases h0
  have hx:(ws.map (fun l=>(⟨l.toArray⟩:ByteArray))).map (·.data.toList)=ws:=by
   rw [List.map_map]
   conv=>rhs;rw [←List.map_id ws]
   apply List.map_congr_left
   intro l _
   simp
  have hj:Lib.join ((ws.map (fun l=>(⟨l.toArray⟩:ByteArray))).map (·.data.toList)) (⟨#[d]⟩:ByteArray).data.toList=joinB d ws:=by
   rw [hx]
   exact zkN d ws
  have h9:=Tryz.strings_Join g 0 c (ws.map (fun l=>(⟨l.toArray⟩:ByteArray))) ⟨#[d]⟩ w (fun j x hjx=>?_) (Zn.1 hg).1 (by rw [List.length_map];omega) (by rw [List.length_map];omega) (by rw [hj];omega)
  ·rw [List.length_map,hn] at h9
   refine h9.mono ?_
   rintro e w' ⟨rfl,hb⟩
   exact ⟨by rw [hj],hb⟩
  ·rw [List.getElem?_map] at hjx
   obtain ⟨l,hl1,rfl⟩:=ZF.1 hjx
   rw [cell_of_row _ g _ _ e (0,0) hg]
   have h8:(ws.flatMap shStr.cells)[j]?=some (.string ⟨l.toArray⟩):=by
    rw [zgJ,List.getElem?_map,hl1]
    rfl
   rw [←hcur,List.getElem?_take] at h8
   split at h8
   ·rw [Nat.zero_add]
    simpa using h8
   ·cases h8
end Go.Proofs.YtkneghkbgingdaaGreatDoor
