/- The library contracts at this dump, in plain words (written by the shelf tools). -/
import Derived.Test.YtancjnedgddobaaGreatDoorProg
import Derived.Shelf.Strings.Trim
import Derived.Shelf.Small.Utf8
import Derived.Shelf.Small.Strs
import Derived.Shelf.Small.Wraps
import Derived.Shelf.Strconv.Itoa0
import Derived.Shelf.Strconv.Itoa1
import Derived.Shelf.LaysM
import Derived.Shelf.Strconv.Itoa2
import Derived.Shelf.Strconv.Itoa3
import Derived.Shelf.Strconv.Clone
import Derived.Ground.MpProg
import Derived.Shelf.Pu.ParseUintPublic10
import Derived.Shelf.Strings.Search1
import Derived.Shelf.Strings.Search2
import Derived.Shelf.Strings.Search3
import Derived.Shelf.Strings.Count
import Derived.Shelf.Strings.Shaped
import Derived.Shelf.Strings.Prefix
import Derived.Shelf.Strings.Split
import Derived.Shelf.Strings.SplitShaped
import Derived.Shelf.Strings.Runes
import Derived.Shelf.Strings.IndexAny
import Derived.Shelf.Strings.AsciiSet
import Derived.Shelf.Strings.IndexAnyAll
import Derived.Shelf.Bits.Mul64
import Derived.Shelf.Strings.Repeat
import Derived.Shelf.Unicode.DecodeSlow
import Derived.Shelf.Unicode.DecodeAny
import Derived.Shelf.Unicode.DecodeLast
namespace Go.Proofs
open Go.Shelf
def Tryz.lays161_ren:Go.Shelf.Ren:=⟨fun | 161=>303 | 231=>332 | 227=>189 | 233=>333 | 235=>334 | 228=>240 | 197=>272 | 151=>242 | 260=>308 | 152=>282 | 137=>137 | 119=>316 | 224=>310 | 225=>309 | 217=>184 | 266=>231 | n=>n,fun | 9=>9 | 4=>4 | 3=>3 | 5=>5 | 117=>182 | 116=>181 | 0=>0 | 124=>185 | 105=>225 | 21=>21 | 119=>302 | 46=>212 | 139=>305 | 138=>304 | n=>n,fun | 3=>6 | 4=>7 | n=>n⟩
theorem Tryz.lays161:Go.Proofs.Lays.n161 Tryz.prog Tryz.lays161_ren:={
  mixed:=by kernel_rfl
  f119:=Tryz.func316.trans (congrArg some (by kernel_rfl))
  f137:=Tryz.func137.trans (congrArg some (by kernel_rfl))
  f151:=Tryz.func242.trans (congrArg some (by kernel_rfl))
  f152:=Tryz.func282.trans (congrArg some (by kernel_rfl))
  f161:=Tryz.func303.trans (congrArg some (by kernel_rfl))
  f197:=Tryz.func272.trans (congrArg some (by kernel_rfl))
  f217:=Tryz.func184.trans (congrArg some (by kernel_rfl))
  f224:=Tryz.func310.trans (congrArg some (by kernel_rfl))
  f225:=Tryz.func309.trans (congrArg some (by kernel_rfl))
  f227:=Tryz.func189.trans (congrArg some (by kernel_rfl))
  f228:=Tryz.func240.trans (congrArg some (by kernel_rfl))
  f231:=Tryz.func332.trans (congrArg some (by kernel_rfl))
  f233:=Tryz.func333.trans (congrArg some (by kernel_rfl))
  f235:=Tryz.func334.trans (congrArg some (by kernel_rfl))
  f260:=Tryz.func308.trans (congrArg some (by kernel_rfl))
  f266:=Tryz.func231.trans (congrArg some (by kernel_rfl))
  t0:=Tryz.underlying0
  a0:=Tryz.isAgg0
  z0:=Tryz.sizeOf0
  v0:=Tryz.zeroValue0
  t3:=Tryz.underlying3
  a3:=Tryz.isAgg3
  z3:=Tryz.sizeOf3
  v3:=Tryz.zeroValue3
  t4:=Tryz.underlying4
  a4:=Tryz.isAgg4
  z4:=Tryz.sizeOf4
  v4:=Tryz.zeroValue4
  t5:=Tryz.underlying5
  a5:=Tryz.isAgg5
  z5:=Tryz.sizeOf5
  v5:=Tryz.zeroValue5
  t9:=Tryz.underlying9
  a9:=Tryz.isAgg9
  z9:=Tryz.sizeOf9
  v9:=Tryz.zeroValue9
  t21:=Tryz.underlying21
  a21:=Tryz.isAgg21
  z21:=Tryz.sizeOf21
  v21:=Tryz.zeroValue21
  t46:=Tryz.underlying212
  a46:=Tryz.isAgg212
  z46:=Tryz.sizeOf212
  v46:=Tryz.zeroValue212
  t105:=Tryz.underlying225
  a105:=Tryz.isAgg225
  z105:=Tryz.sizeOf225
  v105:=Tryz.zeroValue225
  t116:=Tryz.underlying181
  a116:=Tryz.isAgg181
  z116:=Tryz.sizeOf181
  t117:=Tryz.underlying182
  a117:=Tryz.isAgg182
  z117:=Tryz.sizeOf182
  v117:=Tryz.zeroValue182
  t119:=Tryz.underlying302
  a119:=Tryz.isAgg302
  z119:=Tryz.sizeOf302
  t124:=Tryz.underlying185
  a124:=Tryz.isAgg185
  z124:=Tryz.sizeOf185
  v124:=Tryz.zeroValue185
  t138:=Tryz.underlying304
  a138:=Tryz.isAgg304
  z138:=Tryz.sizeOf304
  v138:=Tryz.zeroValue304
  t139:=Tryz.underlying305
  a139:=Tryz.isAgg305
  z139:=Tryz.sizeOf305
  v139:=Tryz.zeroValue305
  g3:=by kernel_rfl
  g4:=by kernel_rfl }
open Go.RowKit in
theorem Tryz.strings_TrimLeft_one (s:ByteArray) (c:UInt8) (hc:c.toNat<128) (w:World) :
    Calls Tryz.prog 303 #[.string s,.string ⟨#[c]⟩] w fun e w'=>e=.returned (.string ⟨(Lib.trimLeftB s.data.toList c).toArray⟩)/\w'=w:=Any.strings_TrimLeft_one Tryz.lays161 s c hc w
def Tryz.lays162_ren:Go.Shelf.Ren:=⟨fun | 162=>142 | 232=>188 | 227=>189 | 234=>190 | 236=>191 | 228=>240 | 271=>241 | 151=>242 | 120=>281 | 197=>272 | 152=>282 | 260=>308 | 137=>137 | 119=>316 | 224=>310 | 225=>309 | 217=>184 | 266=>231 | n=>n,fun | 9=>9 | 4=>4 | 3=>3 | 5=>5 | 117=>182 | 116=>181 | 0=>0 | 124=>185 | 21=>21 | 105=>225 | 46=>212 | 119=>302 | 139=>305 | 138=>304 | n=>n,fun | 3=>6 | 4=>7 | n=>n⟩
theorem Tryz.lays162:Go.Proofs.Lays.n162 Tryz.prog Tryz.lays162_ren:={
  mixed:=by kernel_rfl
  f119:=Tryz.func316.trans (congrArg some (by kernel_rfl))
  f120:=Tryz.func281.trans (congrArg some (by kernel_rfl))
  f137:=Tryz.func137.trans (congrArg some (by kernel_rfl))
  f151:=Tryz.func242.trans (congrArg some (by kernel_rfl))
  f152:=Tryz.func282.trans (congrArg some (by kernel_rfl))
  f162:=Tryz.func142.trans (congrArg some (by kernel_rfl))
  f197:=Tryz.func272.trans (congrArg some (by kernel_rfl))
  f217:=Tryz.func184.trans (congrArg some (by kernel_rfl))
  f224:=Tryz.func310.trans (congrArg some (by kernel_rfl))
  f225:=Tryz.func309.trans (congrArg some (by kernel_rfl))
  f227:=Tryz.func189.trans (congrArg some (by kernel_rfl))
  f228:=Tryz.func240.trans (congrArg some (by kernel_rfl))
  f232:=Tryz.func188.trans (congrArg some (by kernel_rfl))
  f234:=Tryz.func190.trans (congrArg some (by kernel_rfl))
  f236:=Tryz.func191.trans (congrArg some (by kernel_rfl))
  f260:=Tryz.func308.trans (congrArg some (by kernel_rfl))
  f266:=Tryz.func231.trans (congrArg some (by kernel_rfl))
  f271:=Tryz.func241.trans (congrArg some (by kernel_rfl))
  t0:=Tryz.underlying0
  a0:=Tryz.isAgg0
  z0:=Tryz.sizeOf0
  v0:=Tryz.zeroValue0
  t3:=Tryz.underlying3
  a3:=Tryz.isAgg3
  z3:=Tryz.sizeOf3
  v3:=Tryz.zeroValue3
  t4:=Tryz.underlying4
  a4:=Tryz.isAgg4
  z4:=Tryz.sizeOf4
  v4:=Tryz.zeroValue4
  t5:=Tryz.underlying5
  a5:=Tryz.isAgg5
  z5:=Tryz.sizeOf5
  v5:=Tryz.zeroValue5
  t9:=Tryz.underlying9
  a9:=Tryz.isAgg9
  z9:=Tryz.sizeOf9
  v9:=Tryz.zeroValue9
  t21:=Tryz.underlying21
  a21:=Tryz.isAgg21
  z21:=Tryz.sizeOf21
  v21:=Tryz.zeroValue21
  t46:=Tryz.underlying212
  a46:=Tryz.isAgg212
  z46:=Tryz.sizeOf212
  v46:=Tryz.zeroValue212
  t105:=Tryz.underlying225
  a105:=Tryz.isAgg225
  z105:=Tryz.sizeOf225
  v105:=Tryz.zeroValue225
  t116:=Tryz.underlying181
  a116:=Tryz.isAgg181
  z116:=Tryz.sizeOf181
  t117:=Tryz.underlying182
  a117:=Tryz.isAgg182
  z117:=Tryz.sizeOf182
  v117:=Tryz.zeroValue182
  t119:=Tryz.underlying302
  a119:=Tryz.isAgg302
  z119:=Tryz.sizeOf302
  t124:=Tryz.underlying185
  a124:=Tryz.isAgg185
  z124:=Tryz.sizeOf185
  v124:=Tryz.zeroValue185
  t138:=Tryz.underlying304
  a138:=Tryz.isAgg304
  z138:=Tryz.sizeOf304
  v138:=Tryz.zeroValue304
  t139:=Tryz.underlying305
  a139:=Tryz.isAgg305
  z139:=Tryz.sizeOf305
  v139:=Tryz.zeroValue305
  g3:=by kernel_rfl
  g4:=by kernel_rfl }
open Go.RowKit in
theorem Tryz.strings_TrimRight_one (s:ByteArray) (c:UInt8) (hc:c.toNat<128) (w:World) (hs:s.size<=9223372036854775807) :
    Calls Tryz.prog 142 #[.string s,.string ⟨#[c]⟩] w fun e w'=>e=.returned (.string ⟨(Lib.trimRightB s.data.toList c).toArray⟩)/\w'=w:=Any.strings_TrimRight_one Tryz.lays162 s c hc w hs
def Tryz.lays137_ren:Go.Shelf.Ren:=⟨fun | 137=>137 | 217=>184 | 266=>231 | n=>n,fun | 9=>9 | 5=>5 | 3=>3 | n=>n,fun | n=>n⟩
theorem Tryz.lays137:Go.Proofs.Lays.n137 Tryz.prog Tryz.lays137_ren:={
  mixed:=by kernel_rfl
  f137:=Tryz.func137.trans (congrArg some (by kernel_rfl))
  f217:=Tryz.func184.trans (congrArg some (by kernel_rfl))
  f266:=Tryz.func231.trans (congrArg some (by kernel_rfl))
  t3:=Tryz.underlying3
  a3:=Tryz.isAgg3
  z3:=Tryz.sizeOf3
  v3:=Tryz.zeroValue3
  t5:=Tryz.underlying5
  a5:=Tryz.isAgg5
  z5:=Tryz.sizeOf5
  v5:=Tryz.zeroValue5
  t9:=Tryz.underlying9
  a9:=Tryz.isAgg9
  z9:=Tryz.sizeOf9
  v9:=Tryz.zeroValue9 }
open Go.RowKit in
theorem Tryz.strings_IndexByte (s:ByteArray) (c:Int) (w:World) :
    Calls Tryz.prog 137 #[.string s,.int .u8 c] w fun e w'=>e=.returned (.int .i64 (Lib.indexByte s.data.toList c.toNat.toUInt8))/\w'=w:=Any.strings_IndexByte Tryz.lays137 s c w
def Tryz.lays210_ren:Go.Shelf.Ren:=⟨fun | 210=>330 | 206=>270 | n=>n,fun | 9=>9 | 4=>4 | 3=>3 | n=>n,fun | n=>n⟩
def Tryz.lays103_ren:Go.Shelf.Ren:=⟨fun | 103=>300 | 210=>330 | 206=>270 | n=>n,fun | 9=>9 | 4=>4 | 24=>274 | 3=>3 | n=>n,fun | n=>n⟩
theorem Tryz.lays103:Go.Proofs.Lays.n103 Tryz.prog Tryz.lays103_ren:={
  mixed:=by kernel_rfl
  f103:=Tryz.func300.trans (congrArg some (by kernel_rfl))
  f206:=Tryz.func270.trans (congrArg some (by kernel_rfl))
  f210:=Tryz.func330.trans (congrArg some (by kernel_rfl))
  t3:=Tryz.underlying3
  a3:=Tryz.isAgg3
  z3:=Tryz.sizeOf3
  v3:=Tryz.zeroValue3
  t4:=Tryz.underlying4
  a4:=Tryz.isAgg4
  z4:=Tryz.sizeOf4
  v4:=Tryz.zeroValue4
  t9:=Tryz.underlying9
  a9:=Tryz.isAgg9
  z9:=Tryz.sizeOf9
  v9:=Tryz.zeroValue9
  t24:=Tryz.underlying274
  a24:=Tryz.isAgg274
  z24:=Tryz.sizeOf274
  v24:=Tryz.zeroValue274 }
open Go.RowKit in
theorem Tryz.strings_CutPrefix (s p:ByteArray) (w:World) :
    Calls Tryz.prog 300 #[.string s,.string p] w fun e w'=>e=.returned (.tuple #[.string ⟨(Lib.trimPrefix s.data.toList p.data.toList).toArray⟩,.bool (Lib.hasPrefix s.data.toList p.data.toList)])/\w'=w:=Any.strings_CutPrefix Tryz.lays103 s p w
def Tryz.lays283_ren:Go.Shelf.Ren:=⟨fun | 283=>236 | n=>n,fun | 3=>3 | 9=>9 | 4=>4 | n=>n,fun | n=>n⟩
theorem Tryz.lays283:Go.Proofs.Lays.n283 Tryz.prog Tryz.lays283_ren:={
  mixed:=by kernel_rfl
  f283:=Tryz.func236.trans (congrArg some (by kernel_rfl))
  t3:=Tryz.underlying3
  a3:=Tryz.isAgg3
  z3:=Tryz.sizeOf3
  v3:=Tryz.zeroValue3
  t4:=Tryz.underlying4
  a4:=Tryz.isAgg4
  z4:=Tryz.sizeOf4
  v4:=Tryz.zeroValue4
  t9:=Tryz.underlying9
  a9:=Tryz.isAgg9
  z9:=Tryz.sizeOf9
  v9:=Tryz.zeroValue9 }
open Go.Lib in
theorem Tryz.internal_strconv_small (i:Nat) (h:i<100) (w:World) :
    Calls Tryz.prog 236 #[.int .i64 i] w fun e w'=>e=.returned (.string ⟨(Lib.decDigits i).toArray⟩)/\w'=w:=Any.internal_strconv_small Tryz.lays283 i h w
def Tryz.laysM284_ren:Go.Shelf.Ren:=⟨fun | 284=>237 | 129=>277 | 317=>276 | 318=>278 | n=>n,fun | 53=>22 | 3=>3 | 212=>254 | 0=>0 | 4=>4 | 46=>212 | 5=>5 | 9=>9 | n=>n,fun | 17=>1 | n=>n⟩
theorem Tryz.laysM284:Go.Proofs.LaysM.n284 Tryz.prog Tryz.laysM284_ren:={
  mixed:=by kernel_rfl
  f129:=Tryz.func277.trans (congrArg some (by kernel_rfl))
  f284:=Tryz.func237.trans (congrArg some (by kernel_rfl))
  f317:=Tryz.func276.trans (congrArg some (by kernel_rfl))
  f318:=Tryz.func278.trans (congrArg some (by kernel_rfl))
  t0:=Tryz.underlying0
  a0:=Tryz.isAgg0
  z0:=Tryz.sizeOf0
  v0:=Tryz.zeroValue0
  t3:=Tryz.underlying3
  a3:=Tryz.isAgg3
  z3:=Tryz.sizeOf3
  v3:=Tryz.zeroValue3
  t4:=Tryz.underlying4
  a4:=Tryz.isAgg4
  z4:=Tryz.sizeOf4
  v4:=Tryz.zeroValue4
  t5:=Tryz.underlying5
  a5:=Tryz.isAgg5
  z5:=Tryz.sizeOf5
  v5:=Tryz.zeroValue5
  t9:=Tryz.underlying9
  a9:=Tryz.isAgg9
  z9:=Tryz.sizeOf9
  v9:=Tryz.zeroValue9
  t46:=Tryz.underlying212
  a46:=Tryz.isAgg212
  z46:=Tryz.sizeOf212
  v46:=Tryz.zeroValue212
  t53:=Tryz.underlying22
  a53:=Tryz.isAgg22
  z53:=Tryz.sizeOf22
  v53:=Tryz.zeroValue22
  t212:=Tryz.underlying254
  a212:=Tryz.isAgg254
  z212:=Tryz.sizeOf254
  v212:=Tryz.zeroValue254
  g17:=by kernel_rfl
  i0:=by kernel_rfl
  i3:=by kernel_rfl
  i4:=by kernel_rfl
  i5:=by kernel_rfl
  i9:=by kernel_rfl
  i46:=by kernel_rfl
  i53:=by kernel_rfl
  i212:=by kernel_rfl
  m17:=by kernel_rfl }
open Go.Lib in
theorem Tryz.internal_strconv_numDigits (u:Nat) (h1:1<=u) (h2:u<18446744073709551616) (w:World) (htab:Lib.TabIs Tryz.prog w "internal/strconv.uint64pow10" .u64 Lib.pow10Tab) :
    Calls Tryz.prog 237 #[.int .u64 u] w fun e w'=>e=.returned (.int .i64 (Lib.nDigits u))/\w'=w:=Any.internal_strconv_numDigits Tryz.laysM284 u h1 h2 w htab
def Tryz.lays285_ren:Go.Shelf.Ren:=⟨fun | 285=>238 | n=>n,fun | 37=>116 | 53=>22 | 3=>3 | 4=>4 | 51=>244 | 9=>9 | 5=>5 | 0=>0 | n=>n,fun | n=>n⟩
theorem Tryz.lays285:Go.Proofs.Lays.n285 Tryz.prog Tryz.lays285_ren:={
  mixed:=by kernel_rfl
  f285:=Tryz.func238.trans (congrArg some (by kernel_rfl))
  t0:=Tryz.underlying0
  a0:=Tryz.isAgg0
  z0:=Tryz.sizeOf0
  v0:=Tryz.zeroValue0
  t3:=Tryz.underlying3
  a3:=Tryz.isAgg3
  z3:=Tryz.sizeOf3
  v3:=Tryz.zeroValue3
  t4:=Tryz.underlying4
  a4:=Tryz.isAgg4
  z4:=Tryz.sizeOf4
  v4:=Tryz.zeroValue4
  t5:=Tryz.underlying5
  a5:=Tryz.isAgg5
  z5:=Tryz.sizeOf5
  v5:=Tryz.zeroValue5
  t9:=Tryz.underlying9
  a9:=Tryz.isAgg9
  z9:=Tryz.sizeOf9
  v9:=Tryz.zeroValue9
  t37:=Tryz.underlying116
  a37:=Tryz.isAgg116
  z37:=Tryz.sizeOf116
  v37:=Tryz.zeroValue116
  t51:=Tryz.underlying244
  a51:=Tryz.isAgg244
  z51:=Tryz.sizeOf244
  v51:=Tryz.zeroValue244
  t53:=Tryz.underlying22
  a53:=Tryz.isAgg22
  z53:=Tryz.sizeOf22
  v53:=Tryz.zeroValue22 }
open Go.RowKit Go.Sort Go.Lib in
theorem Tryz.internal_strconv_formatBase10 (blk off cap:Nat) (u:Nat) (d:Array UInt8) (w:World) (hH:Holds (fun (b:UInt8)=>Value.int .u8 (b.toNat:Int)) w blk off d) (hu:u<10 ^ d.size) (hu64:u<18446744073709551616) (hsz:d.size<4611686018427387904) :
    Calls Tryz.prog 238 #[.slice (some ⟨blk,off,none⟩) d.size cap,.int .u64 u] w fun e w'=>
      e=.returned (.tuple #[])/\∃ (n v':Nat) (dk:Array UInt8),w'=(putRow (fun (b:UInt8)=>Value.int .u8 (b.toNat:Int)) w blk off dk).drewN n/\FmtInv d.size u 0 v' dk:=Any.internal_strconv_formatBase10 Tryz.lays285 blk off cap u d w hH hu hu64 hsz
def Tryz.laysM316_ren:Go.Shelf.Ren:=⟨fun | 316=>306 | n=>n,fun | 9=>9 | 3=>3 | 4=>4 | 37=>116 | 0=>0 | 127=>193 | 5=>5 | n=>n,fun | n=>n⟩
theorem Tryz.laysM316:Go.Proofs.LaysM.n316 Tryz.prog Tryz.laysM316_ren:={
  mixed:=by kernel_rfl
  f316:=Tryz.func306.trans (congrArg some (by kernel_rfl))
  t0:=Tryz.underlying0
  a0:=Tryz.isAgg0
  z0:=Tryz.sizeOf0
  v0:=Tryz.zeroValue0
  t3:=Tryz.underlying3
  a3:=Tryz.isAgg3
  z3:=Tryz.sizeOf3
  v3:=Tryz.zeroValue3
  t4:=Tryz.underlying4
  a4:=Tryz.isAgg4
  z4:=Tryz.sizeOf4
  v4:=Tryz.zeroValue4
  t9:=Tryz.underlying9
  a9:=Tryz.isAgg9
  z9:=Tryz.sizeOf9
  v9:=Tryz.zeroValue9
  t37:=Tryz.underlying116
  a37:=Tryz.isAgg116
  z37:=Tryz.sizeOf116
  v37:=Tryz.zeroValue116
  t127:=Tryz.underlying193
  a127:=Tryz.isAgg193
  z127:=Tryz.sizeOf193
  v127:=Tryz.zeroValue193
  t5:=Tryz.underlying5
  a5:=Tryz.isAgg5
  z5:=Tryz.sizeOf5
  v5:=Tryz.zeroValue5
  i0:=by kernel_rfl
  i3:=by kernel_rfl
  i4:=by kernel_rfl
  i5:=by kernel_rfl
  i9:=by kernel_rfl
  i37:=by kernel_rfl
  i127:=by kernel_rfl }
open Go.RowKit in
theorem Tryz.stringslite_Clone (s:ByteArray) (w:World) (hlim:s.size<=281474976710656) :
    Calls Tryz.prog 306 #[.string s] w fun e w'=>e=.returned (.string s)/\Below w.heap.size w w':=Any.stringslite_Clone Tryz.laysM316 s w hlim
def Tryz.laysPu14_ren:Go.Shelf.Ren:=⟨fun | 14=>178 | 16=>225 | 17=>226 | 19=>262 | 20=>263 | 21=>264 | 22=>265 | 23=>266 | 24=>267 | 25=>306 | 27=>249 | 26=>307 | 28=>286 | 29=>319 | 30=>236 | 31=>237 | 32=>238 | 33=>239 | 35=>277 | 34=>276 | 36=>278 | 37=>279 | 38=>280 | 39=>314 | 40=>315 | n=>n,fun | 9=>9 | 3=>3 | 22=>22 | 24=>150 | 25=>173 | 4=>4 | 34=>240 | 5=>5 | 36=>212 | 37=>116 | 0=>0 | 39=>241 | 21=>21 | 44=>277 | 47=>193 | 50=>301 | 48=>299 | 2=>2 | 52=>219 | 55=>222 | 59=>254 | 60=>244 | 20=>20 | 61=>255 | 65=>309 | 66=>310 | 67=>153 | n=>n,fun | 0=>4 | 1=>5 | 2=>1 | 3=>8 | 4=>9 | n=>n⟩
theorem Tryz.laysPu14:Go.Proofs.LaysPu.n14 Tryz.prog Tryz.laysPu14_ren:={
  mixed:=by kernel_rfl
  f14:=Tryz.func178.trans (congrArg some (by kernel_rfl))
  f16:=Tryz.func225.trans (congrArg some (by kernel_rfl))
  f17:=Tryz.func226.trans (congrArg some (by kernel_rfl))
  f19:=Tryz.func262.trans (congrArg some (by kernel_rfl))
  f20:=Tryz.func263.trans (congrArg some (by kernel_rfl))
  f21:=Tryz.func264.trans (congrArg some (by kernel_rfl))
  f22:=Tryz.func265.trans (congrArg some (by kernel_rfl))
  f23:=Tryz.func266.trans (congrArg some (by kernel_rfl))
  f24:=Tryz.func267.trans (congrArg some (by kernel_rfl))
  f25:=Tryz.func306.trans (congrArg some (by kernel_rfl))
  f26:=Tryz.func307.trans (congrArg some (by kernel_rfl))
  f27:=Tryz.func249.trans (congrArg some (by kernel_rfl))
  f28:=Tryz.func286.trans (congrArg some (by kernel_rfl))
  f29:=Tryz.func319.trans (congrArg some (by kernel_rfl))
  f30:=Tryz.func236.trans (congrArg some (by kernel_rfl))
  f31:=Tryz.func237.trans (congrArg some (by kernel_rfl))
  f32:=Tryz.func238.trans (congrArg some (by kernel_rfl))
  f33:=Tryz.func239.trans (congrArg some (by kernel_rfl))
  f34:=Tryz.func276.trans (congrArg some (by kernel_rfl))
  f35:=Tryz.func277.trans (congrArg some (by kernel_rfl))
  f36:=Tryz.func278.trans (congrArg some (by kernel_rfl))
  f37:=Tryz.func279.trans (congrArg some (by kernel_rfl))
  f38:=Tryz.func280.trans (congrArg some (by kernel_rfl))
  f39:=Tryz.func314.trans (congrArg some (by kernel_rfl))
  f40:=Tryz.func315.trans (congrArg some (by kernel_rfl))
  t0:=Tryz.underlying0
  a0:=Tryz.isAgg0
  z0:=Tryz.sizeOf0
  v0:=Tryz.zeroValue0
  i0:=by kernel_rfl
  t2:=Tryz.underlying2
  a2:=Tryz.isAgg2
  z2:=Tryz.sizeOf2
  v2:=Tryz.zeroValue2
  i2:=by kernel_rfl
  t3:=Tryz.underlying3
  a3:=Tryz.isAgg3
  z3:=Tryz.sizeOf3
  v3:=Tryz.zeroValue3
  i3:=by kernel_rfl
  t4:=Tryz.underlying4
  a4:=Tryz.isAgg4
  z4:=Tryz.sizeOf4
  v4:=Tryz.zeroValue4
  i4:=by kernel_rfl
  t5:=Tryz.underlying5
  a5:=Tryz.isAgg5
  z5:=Tryz.sizeOf5
  v5:=Tryz.zeroValue5
  i5:=by kernel_rfl
  t9:=Tryz.underlying9
  a9:=Tryz.isAgg9
  z9:=Tryz.sizeOf9
  v9:=Tryz.zeroValue9
  i9:=by kernel_rfl
  t20:=Tryz.underlying20
  a20:=Tryz.isAgg20
  z20:=Tryz.sizeOf20
  v20:=Tryz.zeroValue20
  i20:=by kernel_rfl
  t21:=Tryz.underlying21
  a21:=Tryz.isAgg21
  z21:=Tryz.sizeOf21
  v21:=Tryz.zeroValue21
  i21:=by kernel_rfl
  t22:=Tryz.underlying22
  a22:=Tryz.isAgg22
  z22:=Tryz.sizeOf22
  v22:=Tryz.zeroValue22
  i22:=by kernel_rfl
  t24:=Tryz.underlying150
  a24:=Tryz.isAgg150
  z24:=Tryz.sizeOf150
  v24:=Tryz.zeroValue150
  i24:=by kernel_rfl
  t25:=Tryz.underlying173
  a25:=Tryz.isAgg173
  z25:=Tryz.sizeOf173
  v25:=Tryz.zeroValue173
  i25:=by kernel_rfl
  t34:=Tryz.underlying240
  a34:=Tryz.isAgg240
  z34:=Tryz.sizeOf240
  v34:=Tryz.zeroValue240
  i34:=by kernel_rfl
  c34:=by kernel_rfl
  t36:=Tryz.underlying212
  a36:=Tryz.isAgg212
  z36:=Tryz.sizeOf212
  v36:=Tryz.zeroValue212
  i36:=by kernel_rfl
  t37:=Tryz.underlying116
  a37:=Tryz.isAgg116
  z37:=Tryz.sizeOf116
  v37:=Tryz.zeroValue116
  i37:=by kernel_rfl
  t39:=Tryz.underlying241
  a39:=Tryz.isAgg241
  z39:=Tryz.sizeOf241
  v39:=Tryz.zeroValue241
  i39:=by kernel_rfl
  t44:=Tryz.underlying277
  a44:=Tryz.isAgg277
  z44:=Tryz.sizeOf277
  v44:=Tryz.zeroValue277
  i44:=by kernel_rfl
  t47:=Tryz.underlying193
  a47:=Tryz.isAgg193
  z47:=Tryz.sizeOf193
  v47:=Tryz.zeroValue193
  i47:=by kernel_rfl
  t48:=Tryz.underlying299
  a48:=Tryz.isAgg299
  z48:=Tryz.sizeOf299
  v48:=Tryz.zeroValue299
  i48:=by kernel_rfl
  t50:=Tryz.underlying301
  a50:=Tryz.isAgg301
  z50:=Tryz.sizeOf301
  v50:=Tryz.zeroValue301
  i50:=by kernel_rfl
  t52:=Tryz.underlying219
  a52:=Tryz.isAgg219
  z52:=Tryz.sizeOf219
  v52:=Tryz.zeroValue219
  i52:=by kernel_rfl
  t55:=Tryz.underlying222
  a55:=Tryz.isAgg222
  z55:=Tryz.sizeOf222
  v55:=Tryz.zeroValue222
  i55:=by kernel_rfl
  t59:=Tryz.underlying254
  a59:=Tryz.isAgg254
  z59:=Tryz.sizeOf254
  v59:=Tryz.zeroValue254
  i59:=by kernel_rfl
  t60:=Tryz.underlying244
  a60:=Tryz.isAgg244
  z60:=Tryz.sizeOf244
  v60:=Tryz.zeroValue244
  i60:=by kernel_rfl
  t61:=Tryz.underlying255
  a61:=Tryz.isAgg255
  z61:=Tryz.sizeOf255
  t65:=Tryz.underlying309
  a65:=Tryz.isAgg309
  z65:=Tryz.sizeOf309
  v65:=Tryz.zeroValue309
  i65:=by kernel_rfl
  t66:=Tryz.underlying310
  a66:=Tryz.isAgg310
  z66:=Tryz.sizeOf310
  v66:=Tryz.zeroValue310
  i66:=by kernel_rfl
  t67:=Tryz.underlying153
  a67:=Tryz.isAgg153
  z67:=Tryz.sizeOf153
  v67:=Tryz.zeroValue153
  i67:=by kernel_rfl
  g0:=by kernel_rfl
  m0:=by kernel_rfl
  g1:=by kernel_rfl
  m1:=by kernel_rfl
  g2:=by kernel_rfl
  m2:=by kernel_rfl
  g3:=by kernel_rfl
  m3:=by kernel_rfl
  g4:=by kernel_rfl
  m4:=by kernel_rfl }
open Go.RowKit in
theorem Tryz.strconv_ParseUint_10_at64_ok (s:ByteArray) (hmax:s.size<=9223372036854775806) (u:Nat) (h:Lib.parseUintB 64 s.data.toList=.ok u) (w:World) :
    Calls Tryz.prog 178 #[.string s,.int .i64 10,.int .i64 64] w fun e w'=>e=.returned (.tuple #[.int .u64 u,.nilIface])/\(w'=w∨w'=Lib.bytesWorld w 5 s):=Any.strconv_ParseUint_10_at64_ok Tryz.laysPu14 s hmax u h w
open Go.RowKit in
theorem Tryz.strconv_ParseUint_10_at64_range (s:ByteArray) (hlim:s.size<=281474976710656) (h:Lib.parseUintB 64 s.data.toList=.range) (ev:Value) (w:World) (hv:w.cell? ⟨5,0,none⟩=some ev) (hev:ev=.nilIface∨∃ te pe,ev=.iface te pe) :
    Calls Tryz.prog 178 #[.string s,.int .i64 10,.int .i64 64] w fun e w'=>∃ N,e=.returned (.tuple #[.int .u64 18446744073709551615,.iface 241 (.pointer (some ⟨N,0,none⟩))])/\w.heap.size<=N/\w'.heap[N]?=some (.cells #[.string ⟨#[80,97,114,115,101,85,105,110,116]⟩,.string s,ev] 277 (0,0))/\Below w.heap.size w w':=Any.strconv_ParseUint_10_at64_range Tryz.laysPu14 s hlim h ev w hv hev
def Tryz.lays219_ren:Go.Shelf.Ren:=⟨fun | 219=>274 | 217=>184 | 225=>309 | 224=>310 | 267=>311 | 266=>231 | 314=>336 | n=>n,fun | 9=>9 | 3=>3 | 4=>4 | 5=>5 | 46=>212 | 146=>245 | 51=>244 | n=>n,fun | 1=>0 | n=>n⟩
def Tryz.lays143_ren:Go.Shelf.Ren:=⟨fun | 143=>234 | 219=>274 | 217=>184 | 225=>309 | 224=>310 | 267=>311 | 266=>231 | 314=>336 | n=>n,fun | 9=>9 | 3=>3 | 4=>4 | 5=>5 | 46=>212 | 146=>245 | 51=>244 | n=>n,fun | 1=>0 | n=>n⟩
theorem Tryz.lays143:Go.Proofs.Lays.n143 Tryz.prog Tryz.lays143_ren:={
  mixed:=by kernel_rfl
  f143:=Tryz.func234.trans (congrArg some (by kernel_rfl))
  f217:=Tryz.func184.trans (congrArg some (by kernel_rfl))
  f219:=Tryz.func274.trans (congrArg some (by kernel_rfl))
  f224:=Tryz.func310.trans (congrArg some (by kernel_rfl))
  f225:=Tryz.func309.trans (congrArg some (by kernel_rfl))
  f266:=Tryz.func231.trans (congrArg some (by kernel_rfl))
  f267:=Tryz.func311.trans (congrArg some (by kernel_rfl))
  f314:=Tryz.func336.trans (congrArg some (by kernel_rfl))
  t3:=Tryz.underlying3
  a3:=Tryz.isAgg3
  z3:=Tryz.sizeOf3
  v3:=Tryz.zeroValue3
  t4:=Tryz.underlying4
  a4:=Tryz.isAgg4
  z4:=Tryz.sizeOf4
  v4:=Tryz.zeroValue4
  t5:=Tryz.underlying5
  a5:=Tryz.isAgg5
  z5:=Tryz.sizeOf5
  v5:=Tryz.zeroValue5
  t9:=Tryz.underlying9
  a9:=Tryz.isAgg9
  z9:=Tryz.sizeOf9
  v9:=Tryz.zeroValue9
  t46:=Tryz.underlying212
  a46:=Tryz.isAgg212
  z46:=Tryz.sizeOf212
  v46:=Tryz.zeroValue212
  t51:=Tryz.underlying244
  a51:=Tryz.isAgg244
  z51:=Tryz.sizeOf244
  v51:=Tryz.zeroValue244
  t146:=Tryz.underlying245
  a146:=Tryz.isAgg245
  z146:=Tryz.sizeOf245
  v146:=Tryz.zeroValue245
  g1:=by kernel_rfl }
open Go.RowKit Go.Lib in
theorem Tryz.strings_Index (s sub:ByteArray) (m:Int) (w:World) (hs:s.size<4294967281) (hm:w.cell? ⟨0,0,none⟩=some (.int .i64 m)) :
    Calls Tryz.prog 234 #[.string s,.string sub] w fun e w'=>e=.returned (.int .i64 (Lib.index s.data.toList sub.data.toList))/\w'=w:=Any.strings_Index Tryz.lays143 s sub m w hs hm
def Tryz.lays99_ren:Go.Shelf.Ren:=⟨fun | 99=>228 | 206=>270 | n=>n,fun | 9=>9 | 4=>4 | 3=>3 | n=>n,fun | n=>n⟩
theorem Tryz.lays99:Go.Proofs.Lays.n99 Tryz.prog Tryz.lays99_ren:={
  mixed:=by kernel_rfl
  f99:=Tryz.func228.trans (congrArg some (by kernel_rfl))
  f206:=Tryz.func270.trans (congrArg some (by kernel_rfl))
  t3:=Tryz.underlying3
  a3:=Tryz.isAgg3
  z3:=Tryz.sizeOf3
  v3:=Tryz.zeroValue3
  t4:=Tryz.underlying4
  a4:=Tryz.isAgg4
  z4:=Tryz.sizeOf4
  v4:=Tryz.zeroValue4
  t9:=Tryz.underlying9
  a9:=Tryz.isAgg9
  z9:=Tryz.sizeOf9
  v9:=Tryz.zeroValue9 }
open Go.RowKit Go.Lib in
theorem Tryz.strings_HasPrefix (s p:ByteArray) (w:World) :
    Calls Tryz.prog 228 #[.string s,.string p] w fun e w'=>e=.returned (.bool (Lib.hasPrefix s.data.toList p.data.toList))/\w'=w:=Any.strings_HasPrefix Tryz.lays99 s p w
def Tryz.lays221_ren:Go.Shelf.Ren:=⟨fun | 221=>185 | 268=>232 | 138=>233 | 143=>234 | 195=>271 | 197=>272 | 218=>273 | 219=>274 | 260=>308 | 217=>184 | 225=>309 | 224=>310 | 267=>311 | 266=>231 | 314=>336 | n=>n,fun | 9=>9 | 3=>3 | 31=>35 | 4=>4 | 0=>0 | 105=>225 | 21=>21 | 5=>5 | 46=>212 | 119=>302 | 139=>305 | 138=>304 | 146=>245 | 51=>244 | n=>n,fun | 1=>0 | 3=>6 | 4=>7 | n=>n⟩
def Tryz.lays147_ren:Go.Shelf.Ren:=⟨fun | 147=>138 | 221=>185 | 268=>232 | 138=>233 | 143=>234 | 195=>271 | 197=>272 | 218=>273 | 219=>274 | 260=>308 | 217=>184 | 225=>309 | 224=>310 | 267=>311 | 266=>231 | 314=>336 | n=>n,fun | 9=>9 | 3=>3 | 31=>35 | 4=>4 | 0=>0 | 105=>225 | 21=>21 | 5=>5 | 46=>212 | 119=>302 | 139=>305 | 138=>304 | 146=>245 | 51=>244 | n=>n,fun | 1=>0 | 3=>6 | 4=>7 | n=>n⟩
theorem Tryz.lays147:Go.Proofs.Lays.n147 Tryz.prog Tryz.lays147_ren:={
  mixed:=by kernel_rfl
  f138:=Tryz.func233.trans (congrArg some (by kernel_rfl))
  f143:=Tryz.func234.trans (congrArg some (by kernel_rfl))
  f147:=Tryz.func138.trans (congrArg some (by kernel_rfl))
  f195:=Tryz.func271.trans (congrArg some (by kernel_rfl))
  f197:=Tryz.func272.trans (congrArg some (by kernel_rfl))
  f217:=Tryz.func184.trans (congrArg some (by kernel_rfl))
  f218:=Tryz.func273.trans (congrArg some (by kernel_rfl))
  f219:=Tryz.func274.trans (congrArg some (by kernel_rfl))
  f221:=Tryz.func185.trans (congrArg some (by kernel_rfl))
  f224:=Tryz.func310.trans (congrArg some (by kernel_rfl))
  f225:=Tryz.func309.trans (congrArg some (by kernel_rfl))
  f260:=Tryz.func308.trans (congrArg some (by kernel_rfl))
  f266:=Tryz.func231.trans (congrArg some (by kernel_rfl))
  f267:=Tryz.func311.trans (congrArg some (by kernel_rfl))
  f268:=Tryz.func232.trans (congrArg some (by kernel_rfl))
  f314:=Tryz.func336.trans (congrArg some (by kernel_rfl))
  t0:=Tryz.underlying0
  a0:=Tryz.isAgg0
  z0:=Tryz.sizeOf0
  v0:=Tryz.zeroValue0
  t3:=Tryz.underlying3
  a3:=Tryz.isAgg3
  z3:=Tryz.sizeOf3
  v3:=Tryz.zeroValue3
  t4:=Tryz.underlying4
  a4:=Tryz.isAgg4
  z4:=Tryz.sizeOf4
  v4:=Tryz.zeroValue4
  t5:=Tryz.underlying5
  a5:=Tryz.isAgg5
  z5:=Tryz.sizeOf5
  v5:=Tryz.zeroValue5
  t9:=Tryz.underlying9
  a9:=Tryz.isAgg9
  z9:=Tryz.sizeOf9
  v9:=Tryz.zeroValue9
  t21:=Tryz.underlying21
  a21:=Tryz.isAgg21
  z21:=Tryz.sizeOf21
  v21:=Tryz.zeroValue21
  t31:=Tryz.underlying35
  a31:=Tryz.isAgg35
  z31:=Tryz.sizeOf35
  v31:=Tryz.zeroValue35
  t46:=Tryz.underlying212
  a46:=Tryz.isAgg212
  z46:=Tryz.sizeOf212
  v46:=Tryz.zeroValue212
  t51:=Tryz.underlying244
  a51:=Tryz.isAgg244
  z51:=Tryz.sizeOf244
  v51:=Tryz.zeroValue244
  t105:=Tryz.underlying225
  a105:=Tryz.isAgg225
  z105:=Tryz.sizeOf225
  v105:=Tryz.zeroValue225
  t119:=Tryz.underlying302
  a119:=Tryz.isAgg302
  z119:=Tryz.sizeOf302
  t138:=Tryz.underlying304
  a138:=Tryz.isAgg304
  z138:=Tryz.sizeOf304
  v138:=Tryz.zeroValue304
  t139:=Tryz.underlying305
  a139:=Tryz.isAgg305
  z139:=Tryz.sizeOf305
  v139:=Tryz.zeroValue305
  t146:=Tryz.underlying245
  a146:=Tryz.isAgg245
  z146:=Tryz.sizeOf245
  v146:=Tryz.zeroValue245
  g1:=by kernel_rfl
  g3:=by kernel_rfl
  g4:=by kernel_rfl }
open Go.RowKit Go.Lib in
theorem Tryz.strings_SplitN (s sep:ByteArray) (n:Nat) (m:Int) (w:World) (hs:s.size<4294967281) (hm:w.cell? ⟨0,0,none⟩=some (.int .i64 m)) (h1:1<=sep.size) (hn:1<=n) (hn63:n<=9223372036854775807) :
    Calls Tryz.prog 138 #[.string s,.string sep,.int .i64 n] w fun e w'=>
      e=.returned (.slice (some ⟨w.heap.size,0,none⟩) (Lib.splitB sep 0 (min n (s.size+1)-1) s).length (min n (s.size+1)))/\w'=w.alloc (.cells (Lib.cellsOf (Lib.splitB sep 0 (min n (s.size+1)-1) s) (min n (s.size+1))) 9):=Any.strings_SplitN Tryz.lays147 (by kernel_rfl) s sep n m w hs hm h1 hn hn63
def Tryz.lays153_ren:Go.Shelf.Ren:=⟨fun | 153=>301 | 152=>282 | 226=>331 | 227=>189 | 228=>240 | 137=>137 | 119=>316 | 224=>310 | 225=>309 | 217=>184 | 266=>231 | n=>n,fun | 9=>9 | 3=>3 | 4=>4 | 5=>5 | 21=>21 | 117=>182 | 116=>181 | 0=>0 | 46=>212 | 124=>185 | n=>n,fun | n=>n⟩
theorem Tryz.lays153:Go.Proofs.Lays.n153 Tryz.prog Tryz.lays153_ren:={
  mixed:=by kernel_rfl
  f119:=Tryz.func316.trans (congrArg some (by kernel_rfl))
  f137:=Tryz.func137.trans (congrArg some (by kernel_rfl))
  f152:=Tryz.func282.trans (congrArg some (by kernel_rfl))
  f153:=Tryz.func301.trans (congrArg some (by kernel_rfl))
  f217:=Tryz.func184.trans (congrArg some (by kernel_rfl))
  f224:=Tryz.func310.trans (congrArg some (by kernel_rfl))
  f225:=Tryz.func309.trans (congrArg some (by kernel_rfl))
  f226:=Tryz.func331.trans (congrArg some (by kernel_rfl))
  f227:=Tryz.func189.trans (congrArg some (by kernel_rfl))
  f228:=Tryz.func240.trans (congrArg some (by kernel_rfl))
  f266:=Tryz.func231.trans (congrArg some (by kernel_rfl))
  t0:=Tryz.underlying0
  a0:=Tryz.isAgg0
  z0:=Tryz.sizeOf0
  v0:=Tryz.zeroValue0
  t3:=Tryz.underlying3
  a3:=Tryz.isAgg3
  z3:=Tryz.sizeOf3
  v3:=Tryz.zeroValue3
  t4:=Tryz.underlying4
  a4:=Tryz.isAgg4
  z4:=Tryz.sizeOf4
  v4:=Tryz.zeroValue4
  t5:=Tryz.underlying5
  a5:=Tryz.isAgg5
  z5:=Tryz.sizeOf5
  v5:=Tryz.zeroValue5
  t9:=Tryz.underlying9
  a9:=Tryz.isAgg9
  z9:=Tryz.sizeOf9
  v9:=Tryz.zeroValue9
  t21:=Tryz.underlying21
  a21:=Tryz.isAgg21
  z21:=Tryz.sizeOf21
  v21:=Tryz.zeroValue21
  t46:=Tryz.underlying212
  a46:=Tryz.isAgg212
  z46:=Tryz.sizeOf212
  v46:=Tryz.zeroValue212
  t116:=Tryz.underlying181
  a116:=Tryz.isAgg181
  z116:=Tryz.sizeOf181
  t117:=Tryz.underlying182
  a117:=Tryz.isAgg182
  z117:=Tryz.sizeOf182
  v117:=Tryz.zeroValue182
  t124:=Tryz.underlying185
  a124:=Tryz.isAgg185
  z124:=Tryz.sizeOf185
  v124:=Tryz.zeroValue185 }
open Go.RowKit Go.Lib in
theorem Tryz.strings_IndexAny_laid (s chars:ByteArray) (w:World) (hs:s.size<4294967281) (hcs:chars.size<4294967281) (has:∀ (j:Nat) b,s.data.toList[j]?=some b->b.toNat<128) (hac:∀ (j:Nat) b,chars.data.toList[j]?=some b->b.toNat<128) :
    Calls Tryz.prog 301 #[.string s,.string chars] w fun e w'=>e=.returned (.int .i64 (Lib.indexAny s.data.toList chars.data.toList))/\Below w.heap.size w w':=Any.strings_IndexAny_laid Tryz.lays153 (by kernel_rfl) s chars w hs hcs has hac
def Tryz.lays105_ren:Go.Shelf.Ren:=⟨fun | 105=>179 | 212=>227 | 99=>228 | 165=>160 | 166=>161 | 170=>229 | 169=>162 | 263=>268 | 264=>269 | 206=>270 | 240=>202 | 241=>203 | 276=>247 | 277=>248 | n=>n,fun | 9=>9 | 3=>3 | 4=>4 | 20=>20 | 0=>0 | 46=>212 | 109=>213 | 5=>5 | 72=>118 | 76=>151 | 51=>244 | 146=>245 | 53=>22 | 148=>247 | 70=>115 | 37=>116 | 75=>150 | 127=>193 | 164=>230 | 80=>153 | n=>n,fun | n=>n⟩
theorem Tryz.lays105:Go.Proofs.Lays.n105 Tryz.prog Tryz.lays105_ren:={
  mixed:=by kernel_rfl
  f99:=Tryz.func228.trans (congrArg some (by kernel_rfl))
  f105:=Tryz.func179.trans (congrArg some (by kernel_rfl))
  f165:=Tryz.func160.trans (congrArg some (by kernel_rfl))
  f166:=Tryz.func161.trans (congrArg some (by kernel_rfl))
  f169:=Tryz.func162.trans (congrArg some (by kernel_rfl))
  f170:=Tryz.func229.trans (congrArg some (by kernel_rfl))
  f206:=Tryz.func270.trans (congrArg some (by kernel_rfl))
  f212:=Tryz.func227.trans (congrArg some (by kernel_rfl))
  f240:=Tryz.func202.trans (congrArg some (by kernel_rfl))
  f241:=Tryz.func203.trans (congrArg some (by kernel_rfl))
  f263:=Tryz.func268.trans (congrArg some (by kernel_rfl))
  f264:=Tryz.func269.trans (congrArg some (by kernel_rfl))
  f276:=Tryz.func247.trans (congrArg some (by kernel_rfl))
  f277:=Tryz.func248.trans (congrArg some (by kernel_rfl))
  t0:=Tryz.underlying0
  a0:=Tryz.isAgg0
  z0:=Tryz.sizeOf0
  v0:=Tryz.zeroValue0
  t3:=Tryz.underlying3
  a3:=Tryz.isAgg3
  z3:=Tryz.sizeOf3
  v3:=Tryz.zeroValue3
  t4:=Tryz.underlying4
  a4:=Tryz.isAgg4
  z4:=Tryz.sizeOf4
  v4:=Tryz.zeroValue4
  t5:=Tryz.underlying5
  a5:=Tryz.isAgg5
  z5:=Tryz.sizeOf5
  v5:=Tryz.zeroValue5
  t9:=Tryz.underlying9
  a9:=Tryz.isAgg9
  z9:=Tryz.sizeOf9
  v9:=Tryz.zeroValue9
  t20:=Tryz.underlying20
  a20:=Tryz.isAgg20
  z20:=Tryz.sizeOf20
  v20:=Tryz.zeroValue20
  t37:=Tryz.underlying116
  a37:=Tryz.isAgg116
  z37:=Tryz.sizeOf116
  v37:=Tryz.zeroValue116
  t46:=Tryz.underlying212
  a46:=Tryz.isAgg212
  z46:=Tryz.sizeOf212
  v46:=Tryz.zeroValue212
  t51:=Tryz.underlying244
  a51:=Tryz.isAgg244
  z51:=Tryz.sizeOf244
  v51:=Tryz.zeroValue244
  t53:=Tryz.underlying22
  a53:=Tryz.isAgg22
  z53:=Tryz.sizeOf22
  v53:=Tryz.zeroValue22
  t70:=Tryz.underlying115
  a70:=Tryz.isAgg115
  z70:=Tryz.sizeOf115
  v70:=Tryz.zeroValue115
  t72:=Tryz.underlying118
  a72:=Tryz.isAgg118
  z72:=Tryz.sizeOf118
  v72:=Tryz.zeroValue118
  t75:=Tryz.underlying150
  a75:=Tryz.isAgg150
  z75:=Tryz.sizeOf150
  v75:=Tryz.zeroValue150
  t76:=Tryz.underlying151
  a76:=Tryz.isAgg151
  z76:=Tryz.sizeOf151
  v76:=Tryz.zeroValue151
  t109:=Tryz.underlying213
  a109:=Tryz.isAgg213
  z109:=Tryz.sizeOf213
  v109:=Tryz.zeroValue213
  t127:=Tryz.underlying193
  a127:=Tryz.isAgg193
  z127:=Tryz.sizeOf193
  v127:=Tryz.zeroValue193
  t146:=Tryz.underlying245
  a146:=Tryz.isAgg245
  z146:=Tryz.sizeOf245
  v146:=Tryz.zeroValue245
  t148:=Tryz.underlying247
  a148:=Tryz.isAgg247
  z148:=Tryz.sizeOf247
  v148:=Tryz.zeroValue247
  t164:=Tryz.underlying230
  a164:=Tryz.isAgg230
  z164:=Tryz.sizeOf230
  v164:=Tryz.zeroValue230 }
theorem Tryz.Builder_Extra_105:Builder.Extra Tryz.prog Tryz.lays105_ren:={
  sizeBuilder:=by kernel_rfl
  liesBuilder:=by kernel_rfl
  t5:=Tryz.underlying5
  a5:=Tryz.isAgg5
  z5:=Tryz.sizeOf5
  v5:=Tryz.zeroValue5
  infoByte:=by kernel_rfl
  cellsByte:=by kernel_rfl
  sizeByte:=by kernel_rfl
  neB5:=by decide }
open Go.RowKit Go.Lib in
theorem Tryz.strings_Repeat (s:ByteArray) (c:Nat) (w:World) (hc:c<=9223372036854775807) (hlen:s.size*c<=140737488355328) :
    Calls Tryz.prog 179 #[.string s,.int .i64 c] w fun e w'=>e=.returned (.string ⟨(Lib.repeatL s.data.toList c).toArray⟩)/\Below w.heap.size w w':=Any.strings_Repeat Tryz.lays105 Tryz.Builder_Extra_105 s c w hc hlen
end Go.Proofs
