/- The library contracts at this dump, in plain words (written by the shelf tools). -/
import Derived.Test.YtliekocamnklfaaGreatDoorProg
import Derived.Shelf.Strings.Trim
import Derived.Shelf.Small.Utf8
import Derived.Shelf.Small.Strs
import Derived.Shelf.Small.Wraps
import Derived.Shelf.Strconv.Itoa0
import Derived.Shelf.Strconv.Itoa1
import Derived.Shelf.LaysM
import Derived.Shelf.Strconv.Itoa2
import Derived.Shelf.Strconv.Itoa3
import Derived.Shelf.Strconv.Clone
import Derived.Ground.MpProg
import Derived.Shelf.Pu.ParseUintPublic10
import Derived.Shelf.Strings.Search1
import Derived.Shelf.Strings.Search2
import Derived.Shelf.Strings.Search3
import Derived.Shelf.Strings.Count
import Derived.Shelf.Strings.Shaped
import Derived.Shelf.Strings.Prefix
import Derived.Shelf.Strings.Split
import Derived.Shelf.Strings.SplitShaped
import Derived.Shelf.Strings.Runes
import Derived.Shelf.Strings.IndexAny
import Derived.Shelf.Strings.AsciiSet
import Derived.Shelf.Strings.IndexAnyAll
import Derived.Shelf.Bits.Mul64
import Derived.Shelf.Strings.Repeat
import Derived.Shelf.Unicode.DecodeSlow
import Derived.Shelf.Unicode.DecodeAny
import Derived.Shelf.Unicode.DecodeLast
namespace Go.Proofs
open Go.Shelf
def Tryz.lays161_ren:Go.Shelf.Ren:=⟨fun | 161=>263 | 231=>297 | 227=>150 | 233=>298 | 235=>299 | 228=>199 | 197=>231 | 151=>201 | 260=>272 | 152=>242 | 137=>104 | 119=>282 | 224=>274 | 225=>273 | 217=>144 | 266=>189 | n=>n,fun | 9=>9 | 4=>4 | 3=>3 | 5=>5 | 117=>149 | 116=>148 | 0=>0 | 124=>152 | 105=>189 | 21=>21 | 119=>274 | 46=>173 | 139=>277 | 138=>276 | n=>n,fun | 3=>6 | 4=>7 | n=>n⟩
theorem Tryz.lays161:Go.Proofs.Lays.n161 Tryz.prog Tryz.lays161_ren:={
  mixed:=by kernel_rfl
  f119:=Tryz.func282.trans (congrArg some (by kernel_rfl))
  f137:=Tryz.func104.trans (congrArg some (by kernel_rfl))
  f151:=Tryz.func201.trans (congrArg some (by kernel_rfl))
  f152:=Tryz.func242.trans (congrArg some (by kernel_rfl))
  f161:=Tryz.func263.trans (congrArg some (by kernel_rfl))
  f197:=Tryz.func231.trans (congrArg some (by kernel_rfl))
  f217:=Tryz.func144.trans (congrArg some (by kernel_rfl))
  f224:=Tryz.func274.trans (congrArg some (by kernel_rfl))
  f225:=Tryz.func273.trans (congrArg some (by kernel_rfl))
  f227:=Tryz.func150.trans (congrArg some (by kernel_rfl))
  f228:=Tryz.func199.trans (congrArg some (by kernel_rfl))
  f231:=Tryz.func297.trans (congrArg some (by kernel_rfl))
  f233:=Tryz.func298.trans (congrArg some (by kernel_rfl))
  f235:=Tryz.func299.trans (congrArg some (by kernel_rfl))
  f260:=Tryz.func272.trans (congrArg some (by kernel_rfl))
  f266:=Tryz.func189.trans (congrArg some (by kernel_rfl))
  t0:=Tryz.underlying0
  a0:=Tryz.isAgg0
  z0:=Tryz.sizeOf0
  v0:=Tryz.zeroValue0
  t3:=Tryz.underlying3
  a3:=Tryz.isAgg3
  z3:=Tryz.sizeOf3
  v3:=Tryz.zeroValue3
  t4:=Tryz.underlying4
  a4:=Tryz.isAgg4
  z4:=Tryz.sizeOf4
  v4:=Tryz.zeroValue4
  t5:=Tryz.underlying5
  a5:=Tryz.isAgg5
  z5:=Tryz.sizeOf5
  v5:=Tryz.zeroValue5
  t9:=Tryz.underlying9
  a9:=Tryz.isAgg9
  z9:=Tryz.sizeOf9
  v9:=Tryz.zeroValue9
  t21:=Tryz.underlying21
  a21:=Tryz.isAgg21
  z21:=Tryz.sizeOf21
  v21:=Tryz.zeroValue21
  t46:=Tryz.underlying173
  a46:=Tryz.isAgg173
  z46:=Tryz.sizeOf173
  v46:=Tryz.zeroValue173
  t105:=Tryz.underlying189
  a105:=Tryz.isAgg189
  z105:=Tryz.sizeOf189
  v105:=Tryz.zeroValue189
  t116:=Tryz.underlying148
  a116:=Tryz.isAgg148
  z116:=Tryz.sizeOf148
  t117:=Tryz.underlying149
  a117:=Tryz.isAgg149
  z117:=Tryz.sizeOf149
  v117:=Tryz.zeroValue149
  t119:=Tryz.underlying274
  a119:=Tryz.isAgg274
  z119:=Tryz.sizeOf274
  t124:=Tryz.underlying152
  a124:=Tryz.isAgg152
  z124:=Tryz.sizeOf152
  v124:=Tryz.zeroValue152
  t138:=Tryz.underlying276
  a138:=Tryz.isAgg276
  z138:=Tryz.sizeOf276
  v138:=Tryz.zeroValue276
  t139:=Tryz.underlying277
  a139:=Tryz.isAgg277
  z139:=Tryz.sizeOf277
  v139:=Tryz.zeroValue277
  g3:=by kernel_rfl
  g4:=by kernel_rfl }
open Go.RowKit in
theorem Tryz.strings_TrimLeft_one (s:ByteArray) (c:UInt8) (hc:c.toNat<128) (w:World) :
    Calls Tryz.prog 263 #[.string s,.string ⟨#[c]⟩] w fun e w'=>e=.returned (.string ⟨(Lib.trimLeftB s.data.toList c).toArray⟩)/\w'=w:=Any.strings_TrimLeft_one Tryz.lays161 s c hc w
def Tryz.lays162_ren:Go.Shelf.Ren:=⟨fun | 162=>109 | 232=>149 | 227=>150 | 234=>151 | 236=>152 | 228=>199 | 271=>200 | 151=>201 | 120=>241 | 197=>231 | 152=>242 | 260=>272 | 137=>104 | 119=>282 | 224=>274 | 225=>273 | 217=>144 | 266=>189 | n=>n,fun | 9=>9 | 4=>4 | 3=>3 | 5=>5 | 117=>149 | 116=>148 | 0=>0 | 124=>152 | 21=>21 | 105=>189 | 46=>173 | 119=>274 | 139=>277 | 138=>276 | n=>n,fun | 3=>6 | 4=>7 | n=>n⟩
theorem Tryz.lays162:Go.Proofs.Lays.n162 Tryz.prog Tryz.lays162_ren:={
  mixed:=by kernel_rfl
  f119:=Tryz.func282.trans (congrArg some (by kernel_rfl))
  f120:=Tryz.func241.trans (congrArg some (by kernel_rfl))
  f137:=Tryz.func104.trans (congrArg some (by kernel_rfl))
  f151:=Tryz.func201.trans (congrArg some (by kernel_rfl))
  f152:=Tryz.func242.trans (congrArg some (by kernel_rfl))
  f162:=Tryz.func109.trans (congrArg some (by kernel_rfl))
  f197:=Tryz.func231.trans (congrArg some (by kernel_rfl))
  f217:=Tryz.func144.trans (congrArg some (by kernel_rfl))
  f224:=Tryz.func274.trans (congrArg some (by kernel_rfl))
  f225:=Tryz.func273.trans (congrArg some (by kernel_rfl))
  f227:=Tryz.func150.trans (congrArg some (by kernel_rfl))
  f228:=Tryz.func199.trans (congrArg some (by kernel_rfl))
  f232:=Tryz.func149.trans (congrArg some (by kernel_rfl))
  f234:=Tryz.func151.trans (congrArg some (by kernel_rfl))
  f236:=Tryz.func152.trans (congrArg some (by kernel_rfl))
  f260:=Tryz.func272.trans (congrArg some (by kernel_rfl))
  f266:=Tryz.func189.trans (congrArg some (by kernel_rfl))
  f271:=Tryz.func200.trans (congrArg some (by kernel_rfl))
  t0:=Tryz.underlying0
  a0:=Tryz.isAgg0
  z0:=Tryz.sizeOf0
  v0:=Tryz.zeroValue0
  t3:=Tryz.underlying3
  a3:=Tryz.isAgg3
  z3:=Tryz.sizeOf3
  v3:=Tryz.zeroValue3
  t4:=Tryz.underlying4
  a4:=Tryz.isAgg4
  z4:=Tryz.sizeOf4
  v4:=Tryz.zeroValue4
  t5:=Tryz.underlying5
  a5:=Tryz.isAgg5
  z5:=Tryz.sizeOf5
  v5:=Tryz.zeroValue5
  t9:=Tryz.underlying9
  a9:=Tryz.isAgg9
  z9:=Tryz.sizeOf9
  v9:=Tryz.zeroValue9
  t21:=Tryz.underlying21
  a21:=Tryz.isAgg21
  z21:=Tryz.sizeOf21
  v21:=Tryz.zeroValue21
  t46:=Tryz.underlying173
  a46:=Tryz.isAgg173
  z46:=Tryz.sizeOf173
  v46:=Tryz.zeroValue173
  t105:=Tryz.underlying189
  a105:=Tryz.isAgg189
  z105:=Tryz.sizeOf189
  v105:=Tryz.zeroValue189
  t116:=Tryz.underlying148
  a116:=Tryz.isAgg148
  z116:=Tryz.sizeOf148
  t117:=Tryz.underlying149
  a117:=Tryz.isAgg149
  z117:=Tryz.sizeOf149
  v117:=Tryz.zeroValue149
  t119:=Tryz.underlying274
  a119:=Tryz.isAgg274
  z119:=Tryz.sizeOf274
  t124:=Tryz.underlying152
  a124:=Tryz.isAgg152
  z124:=Tryz.sizeOf152
  v124:=Tryz.zeroValue152
  t138:=Tryz.underlying276
  a138:=Tryz.isAgg276
  z138:=Tryz.sizeOf276
  v138:=Tryz.zeroValue276
  t139:=Tryz.underlying277
  a139:=Tryz.isAgg277
  z139:=Tryz.sizeOf277
  v139:=Tryz.zeroValue277
  g3:=by kernel_rfl
  g4:=by kernel_rfl }
open Go.RowKit in
theorem Tryz.strings_TrimRight_one (s:ByteArray) (c:UInt8) (hc:c.toNat<128) (w:World) (hs:s.size<=9223372036854775807) :
    Calls Tryz.prog 109 #[.string s,.string ⟨#[c]⟩] w fun e w'=>e=.returned (.string ⟨(Lib.trimRightB s.data.toList c).toArray⟩)/\w'=w:=Any.strings_TrimRight_one Tryz.lays162 s c hc w hs
def Tryz.lays137_ren:Go.Shelf.Ren:=⟨fun | 137=>104 | 217=>144 | 266=>189 | n=>n,fun | 9=>9 | 5=>5 | 3=>3 | n=>n,fun | n=>n⟩
theorem Tryz.lays137:Go.Proofs.Lays.n137 Tryz.prog Tryz.lays137_ren:={
  mixed:=by kernel_rfl
  f137:=Tryz.func104.trans (congrArg some (by kernel_rfl))
  f217:=Tryz.func144.trans (congrArg some (by kernel_rfl))
  f266:=Tryz.func189.trans (congrArg some (by kernel_rfl))
  t3:=Tryz.underlying3
  a3:=Tryz.isAgg3
  z3:=Tryz.sizeOf3
  v3:=Tryz.zeroValue3
  t5:=Tryz.underlying5
  a5:=Tryz.isAgg5
  z5:=Tryz.sizeOf5
  v5:=Tryz.zeroValue5
  t9:=Tryz.underlying9
  a9:=Tryz.isAgg9
  z9:=Tryz.sizeOf9
  v9:=Tryz.zeroValue9 }
open Go.RowKit in
theorem Tryz.strings_IndexByte (s:ByteArray) (c:Int) (w:World) :
    Calls Tryz.prog 104 #[.string s,.int .u8 c] w fun e w'=>e=.returned (.int .i64 (Lib.indexByte s.data.toList c.toNat.toUInt8))/\w'=w:=Any.strings_IndexByte Tryz.lays137 s c w
def Tryz.lays210_ren:Go.Shelf.Ren:=⟨fun | 210=>295 | 206=>227 | n=>n,fun | 9=>9 | 4=>4 | 3=>3 | n=>n,fun | n=>n⟩
def Tryz.lays103_ren:Go.Shelf.Ren:=⟨fun | 103=>260 | 210=>295 | 206=>227 | n=>n,fun | 9=>9 | 4=>4 | 24=>240 | 3=>3 | n=>n,fun | n=>n⟩
theorem Tryz.lays103:Go.Proofs.Lays.n103 Tryz.prog Tryz.lays103_ren:={
  mixed:=by kernel_rfl
  f103:=Tryz.func260.trans (congrArg some (by kernel_rfl))
  f206:=Tryz.func227.trans (congrArg some (by kernel_rfl))
  f210:=Tryz.func295.trans (congrArg some (by kernel_rfl))
  t3:=Tryz.underlying3
  a3:=Tryz.isAgg3
  z3:=Tryz.sizeOf3
  v3:=Tryz.zeroValue3
  t4:=Tryz.underlying4
  a4:=Tryz.isAgg4
  z4:=Tryz.sizeOf4
  v4:=Tryz.zeroValue4
  t9:=Tryz.underlying9
  a9:=Tryz.isAgg9
  z9:=Tryz.sizeOf9
  v9:=Tryz.zeroValue9
  t24:=Tryz.underlying240
  a24:=Tryz.isAgg240
  z24:=Tryz.sizeOf240
  v24:=Tryz.zeroValue240 }
open Go.RowKit in
theorem Tryz.strings_CutPrefix (s p:ByteArray) (w:World) :
    Calls Tryz.prog 260 #[.string s,.string p] w fun e w'=>e=.returned (.tuple #[.string ⟨(Lib.trimPrefix s.data.toList p.data.toList).toArray⟩,.bool (Lib.hasPrefix s.data.toList p.data.toList)])/\w'=w:=Any.strings_CutPrefix Tryz.lays103 s p w
def Tryz.lays283_ren:Go.Shelf.Ren:=⟨fun | 283=>195 | n=>n,fun | 3=>3 | 9=>9 | 4=>4 | n=>n,fun | n=>n⟩
theorem Tryz.lays283:Go.Proofs.Lays.n283 Tryz.prog Tryz.lays283_ren:={
  mixed:=by kernel_rfl
  f283:=Tryz.func195.trans (congrArg some (by kernel_rfl))
  t3:=Tryz.underlying3
  a3:=Tryz.isAgg3
  z3:=Tryz.sizeOf3
  v3:=Tryz.zeroValue3
  t4:=Tryz.underlying4
  a4:=Tryz.isAgg4
  z4:=Tryz.sizeOf4
  v4:=Tryz.zeroValue4
  t9:=Tryz.underlying9
  a9:=Tryz.isAgg9
  z9:=Tryz.sizeOf9
  v9:=Tryz.zeroValue9 }
open Go.Lib in
theorem Tryz.internal_strconv_small (i:Nat) (h:i<100) (w:World) :
    Calls Tryz.prog 195 #[.int .i64 i] w fun e w'=>e=.returned (.string ⟨(Lib.decDigits i).toArray⟩)/\w'=w:=Any.internal_strconv_small Tryz.lays283 i h w
def Tryz.laysM284_ren:Go.Shelf.Ren:=⟨fun | 284=>196 | 129=>237 | 317=>236 | 318=>238 | n=>n,fun | 53=>32 | 3=>3 | 212=>222 | 0=>0 | 4=>4 | 46=>173 | 5=>5 | 9=>9 | n=>n,fun | 17=>1 | n=>n⟩
theorem Tryz.laysM284:Go.Proofs.LaysM.n284 Tryz.prog Tryz.laysM284_ren:={
  mixed:=by kernel_rfl
  f129:=Tryz.func237.trans (congrArg some (by kernel_rfl))
  f284:=Tryz.func196.trans (congrArg some (by kernel_rfl))
  f317:=Tryz.func236.trans (congrArg some (by kernel_rfl))
  f318:=Tryz.func238.trans (congrArg some (by kernel_rfl))
  t0:=Tryz.underlying0
  a0:=Tryz.isAgg0
  z0:=Tryz.sizeOf0
  v0:=Tryz.zeroValue0
  t3:=Tryz.underlying3
  a3:=Tryz.isAgg3
  z3:=Tryz.sizeOf3
  v3:=Tryz.zeroValue3
  t4:=Tryz.underlying4
  a4:=Tryz.isAgg4
  z4:=Tryz.sizeOf4
  v4:=Tryz.zeroValue4
  t5:=Tryz.underlying5
  a5:=Tryz.isAgg5
  z5:=Tryz.sizeOf5
  v5:=Tryz.zeroValue5
  t9:=Tryz.underlying9
  a9:=Tryz.isAgg9
  z9:=Tryz.sizeOf9
  v9:=Tryz.zeroValue9
  t46:=Tryz.underlying173
  a46:=Tryz.isAgg173
  z46:=Tryz.sizeOf173
  v46:=Tryz.zeroValue173
  t53:=Tryz.underlying32
  a53:=Tryz.isAgg32
  z53:=Tryz.sizeOf32
  v53:=Tryz.zeroValue32
  t212:=Tryz.underlying222
  a212:=Tryz.isAgg222
  z212:=Tryz.sizeOf222
  v212:=Tryz.zeroValue222
  g17:=by kernel_rfl
  i0:=by kernel_rfl
  i3:=by kernel_rfl
  i4:=by kernel_rfl
  i5:=by kernel_rfl
  i9:=by kernel_rfl
  i46:=by kernel_rfl
  i53:=by kernel_rfl
  i212:=by kernel_rfl
  m17:=by kernel_rfl }
open Go.Lib in
theorem Tryz.internal_strconv_numDigits (u:Nat) (h1:1<=u) (h2:u<18446744073709551616) (w:World) (htab:Lib.TabIs Tryz.prog w "internal/strconv.uint64pow10" .u64 Lib.pow10Tab) :
    Calls Tryz.prog 196 #[.int .u64 u] w fun e w'=>e=.returned (.int .i64 (Lib.nDigits u))/\w'=w:=Any.internal_strconv_numDigits Tryz.laysM284 u h1 h2 w htab
def Tryz.lays285_ren:Go.Shelf.Ren:=⟨fun | 285=>197 | n=>n,fun | 37=>89 | 53=>32 | 3=>3 | 4=>4 | 51=>211 | 9=>9 | 5=>5 | 0=>0 | n=>n,fun | n=>n⟩
theorem Tryz.lays285:Go.Proofs.Lays.n285 Tryz.prog Tryz.lays285_ren:={
  mixed:=by kernel_rfl
  f285:=Tryz.func197.trans (congrArg some (by kernel_rfl))
  t0:=Tryz.underlying0
  a0:=Tryz.isAgg0
  z0:=Tryz.sizeOf0
  v0:=Tryz.zeroValue0
  t3:=Tryz.underlying3
  a3:=Tryz.isAgg3
  z3:=Tryz.sizeOf3
  v3:=Tryz.zeroValue3
  t4:=Tryz.underlying4
  a4:=Tryz.isAgg4
  z4:=Tryz.sizeOf4
  v4:=Tryz.zeroValue4
  t5:=Tryz.underlying5
  a5:=Tryz.isAgg5
  z5:=Tryz.sizeOf5
  v5:=Tryz.zeroValue5
  t9:=Tryz.underlying9
  a9:=Tryz.isAgg9
  z9:=Tryz.sizeOf9
  v9:=Tryz.zeroValue9
  t37:=Tryz.underlying89
  a37:=Tryz.isAgg89
  z37:=Tryz.sizeOf89
  v37:=Tryz.zeroValue89
  t51:=Tryz.underlying211
  a51:=Tryz.isAgg211
  z51:=Tryz.sizeOf211
  v51:=Tryz.zeroValue211
  t53:=Tryz.underlying32
  a53:=Tryz.isAgg32
  z53:=Tryz.sizeOf32
  v53:=Tryz.zeroValue32 }
open Go.RowKit Go.Sort Go.Lib in
theorem Tryz.internal_strconv_formatBase10 (blk off cap:Nat) (u:Nat) (d:Array UInt8) (w:World) (hH:Holds (fun (b:UInt8)=>Value.int .u8 (b.toNat:Int)) w blk off d) (hu:u<10 ^ d.size) (hu64:u<18446744073709551616) (hsz:d.size<4611686018427387904) :
    Calls Tryz.prog 197 #[.slice (some ⟨blk,off,none⟩) d.size cap,.int .u64 u] w fun e w'=>
      e=.returned (.tuple #[])/\∃ (n v':Nat) (dk:Array UInt8),w'=(putRow (fun (b:UInt8)=>Value.int .u8 (b.toNat:Int)) w blk off dk).drewN n/\FmtInv d.size u 0 v' dk:=Any.internal_strconv_formatBase10 Tryz.lays285 blk off cap u d w hH hu hu64 hsz
def Tryz.laysM316_ren:Go.Shelf.Ren:=⟨fun | 316=>268 | n=>n,fun | 9=>9 | 3=>3 | 4=>4 | 37=>89 | 0=>0 | 127=>216 | 5=>5 | n=>n,fun | n=>n⟩
theorem Tryz.laysM316:Go.Proofs.LaysM.n316 Tryz.prog Tryz.laysM316_ren:={
  mixed:=by kernel_rfl
  f316:=Tryz.func268.trans (congrArg some (by kernel_rfl))
  t0:=Tryz.underlying0
  a0:=Tryz.isAgg0
  z0:=Tryz.sizeOf0
  v0:=Tryz.zeroValue0
  t3:=Tryz.underlying3
  a3:=Tryz.isAgg3
  z3:=Tryz.sizeOf3
  v3:=Tryz.zeroValue3
  t4:=Tryz.underlying4
  a4:=Tryz.isAgg4
  z4:=Tryz.sizeOf4
  v4:=Tryz.zeroValue4
  t9:=Tryz.underlying9
  a9:=Tryz.isAgg9
  z9:=Tryz.sizeOf9
  v9:=Tryz.zeroValue9
  t37:=Tryz.underlying89
  a37:=Tryz.isAgg89
  z37:=Tryz.sizeOf89
  v37:=Tryz.zeroValue89
  t127:=Tryz.underlying216
  a127:=Tryz.isAgg216
  z127:=Tryz.sizeOf216
  v127:=Tryz.zeroValue216
  t5:=Tryz.underlying5
  a5:=Tryz.isAgg5
  z5:=Tryz.sizeOf5
  v5:=Tryz.zeroValue5
  i0:=by kernel_rfl
  i3:=by kernel_rfl
  i4:=by kernel_rfl
  i5:=by kernel_rfl
  i9:=by kernel_rfl
  i37:=by kernel_rfl
  i127:=by kernel_rfl }
open Go.RowKit in
theorem Tryz.stringslite_Clone (s:ByteArray) (w:World) (hlim:s.size<=281474976710656) :
    Calls Tryz.prog 268 #[.string s] w fun e w'=>e=.returned (.string s)/\Below w.heap.size w w':=Any.stringslite_Clone Tryz.laysM316 s w hlim
def Tryz.laysPu14_ren:Go.Shelf.Ren:=⟨fun | 14=>140 | 16=>181 | 17=>182 | 19=>219 | 20=>220 | 21=>221 | 22=>222 | 23=>223 | 24=>224 | 25=>268 | 27=>204 | 26=>269 | 28=>244 | 29=>284 | 30=>195 | 31=>196 | 32=>197 | 33=>198 | 35=>237 | 34=>236 | 36=>238 | 37=>239 | 38=>240 | 39=>280 | 40=>281 | n=>n,fun | 9=>9 | 3=>3 | 22=>32 | 24=>140 | 25=>141 | 4=>4 | 34=>206 | 5=>5 | 36=>173 | 37=>89 | 0=>0 | 39=>208 | 21=>21 | 44=>243 | 47=>216 | 50=>273 | 48=>271 | 2=>2 | 52=>183 | 55=>186 | 59=>222 | 60=>211 | 20=>20 | 61=>223 | 65=>281 | 66=>282 | 67=>119 | n=>n,fun | 0=>3 | 1=>4 | 2=>1 | 3=>8 | 4=>9 | n=>n⟩
theorem Tryz.laysPu14:Go.Proofs.LaysPu.n14 Tryz.prog Tryz.laysPu14_ren:={
  mixed:=by kernel_rfl
  f14:=Tryz.func140.trans (congrArg some (by kernel_rfl))
  f16:=Tryz.func181.trans (congrArg some (by kernel_rfl))
  f17:=Tryz.func182.trans (congrArg some (by kernel_rfl))
  f19:=Tryz.func219.trans (congrArg some (by kernel_rfl))
  f20:=Tryz.func220.trans (congrArg some (by kernel_rfl))
  f21:=Tryz.func221.trans (congrArg some (by kernel_rfl))
  f22:=Tryz.func222.trans (congrArg some (by kernel_rfl))
  f23:=Tryz.func223.trans (congrArg some (by kernel_rfl))
  f24:=Tryz.func224.trans (congrArg some (by kernel_rfl))
  f25:=Tryz.func268.trans (congrArg some (by kernel_rfl))
  f26:=Tryz.func269.trans (congrArg some (by kernel_rfl))
  f27:=Tryz.func204.trans (congrArg some (by kernel_rfl))
  f28:=Tryz.func244.trans (congrArg some (by kernel_rfl))
  f29:=Tryz.func284.trans (congrArg some (by kernel_rfl))
  f30:=Tryz.func195.trans (congrArg some (by kernel_rfl))
  f31:=Tryz.func196.trans (congrArg some (by kernel_rfl))
  f32:=Tryz.func197.trans (congrArg some (by kernel_rfl))
  f33:=Tryz.func198.trans (congrArg some (by kernel_rfl))
  f34:=Tryz.func236.trans (congrArg some (by kernel_rfl))
  f35:=Tryz.func237.trans (congrArg some (by kernel_rfl))
  f36:=Tryz.func238.trans (congrArg some (by kernel_rfl))
  f37:=Tryz.func239.trans (congrArg some (by kernel_rfl))
  f38:=Tryz.func240.trans (congrArg some (by kernel_rfl))
  f39:=Tryz.func280.trans (congrArg some (by kernel_rfl))
  f40:=Tryz.func281.trans (congrArg some (by kernel_rfl))
  t0:=Tryz.underlying0
  a0:=Tryz.isAgg0
  z0:=Tryz.sizeOf0
  v0:=Tryz.zeroValue0
  i0:=by kernel_rfl
  t2:=Tryz.underlying2
  a2:=Tryz.isAgg2
  z2:=Tryz.sizeOf2
  v2:=Tryz.zeroValue2
  i2:=by kernel_rfl
  t3:=Tryz.underlying3
  a3:=Tryz.isAgg3
  z3:=Tryz.sizeOf3
  v3:=Tryz.zeroValue3
  i3:=by kernel_rfl
  t4:=Tryz.underlying4
  a4:=Tryz.isAgg4
  z4:=Tryz.sizeOf4
  v4:=Tryz.zeroValue4
  i4:=by kernel_rfl
  t5:=Tryz.underlying5
  a5:=Tryz.isAgg5
  z5:=Tryz.sizeOf5
  v5:=Tryz.zeroValue5
  i5:=by kernel_rfl
  t9:=Tryz.underlying9
  a9:=Tryz.isAgg9
  z9:=Tryz.sizeOf9
  v9:=Tryz.zeroValue9
  i9:=by kernel_rfl
  t20:=Tryz.underlying20
  a20:=Tryz.isAgg20
  z20:=Tryz.sizeOf20
  v20:=Tryz.zeroValue20
  i20:=by kernel_rfl
  t21:=Tryz.underlying21
  a21:=Tryz.isAgg21
  z21:=Tryz.sizeOf21
  v21:=Tryz.zeroValue21
  i21:=by kernel_rfl
  t22:=Tryz.underlying32
  a22:=Tryz.isAgg32
  z22:=Tryz.sizeOf32
  v22:=Tryz.zeroValue32
  i22:=by kernel_rfl
  t24:=Tryz.underlying140
  a24:=Tryz.isAgg140
  z24:=Tryz.sizeOf140
  v24:=Tryz.zeroValue140
  i24:=by kernel_rfl
  t25:=Tryz.underlying141
  a25:=Tryz.isAgg141
  z25:=Tryz.sizeOf141
  v25:=Tryz.zeroValue141
  i25:=by kernel_rfl
  t34:=Tryz.underlying206
  a34:=Tryz.isAgg206
  z34:=Tryz.sizeOf206
  v34:=Tryz.zeroValue206
  i34:=by kernel_rfl
  c34:=by kernel_rfl
  t36:=Tryz.underlying173
  a36:=Tryz.isAgg173
  z36:=Tryz.sizeOf173
  v36:=Tryz.zeroValue173
  i36:=by kernel_rfl
  t37:=Tryz.underlying89
  a37:=Tryz.isAgg89
  z37:=Tryz.sizeOf89
  v37:=Tryz.zeroValue89
  i37:=by kernel_rfl
  t39:=Tryz.underlying208
  a39:=Tryz.isAgg208
  z39:=Tryz.sizeOf208
  v39:=Tryz.zeroValue208
  i39:=by kernel_rfl
  t44:=Tryz.underlying243
  a44:=Tryz.isAgg243
  z44:=Tryz.sizeOf243
  v44:=Tryz.zeroValue243
  i44:=by kernel_rfl
  t47:=Tryz.underlying216
  a47:=Tryz.isAgg216
  z47:=Tryz.sizeOf216
  v47:=Tryz.zeroValue216
  i47:=by kernel_rfl
  t48:=Tryz.underlying271
  a48:=Tryz.isAgg271
  z48:=Tryz.sizeOf271
  v48:=Tryz.zeroValue271
  i48:=by kernel_rfl
  t50:=Tryz.underlying273
  a50:=Tryz.isAgg273
  z50:=Tryz.sizeOf273
  v50:=Tryz.zeroValue273
  i50:=by kernel_rfl
  t52:=Tryz.underlying183
  a52:=Tryz.isAgg183
  z52:=Tryz.sizeOf183
  v52:=Tryz.zeroValue183
  i52:=by kernel_rfl
  t55:=Tryz.underlying186
  a55:=Tryz.isAgg186
  z55:=Tryz.sizeOf186
  v55:=Tryz.zeroValue186
  i55:=by kernel_rfl
  t59:=Tryz.underlying222
  a59:=Tryz.isAgg222
  z59:=Tryz.sizeOf222
  v59:=Tryz.zeroValue222
  i59:=by kernel_rfl
  t60:=Tryz.underlying211
  a60:=Tryz.isAgg211
  z60:=Tryz.sizeOf211
  v60:=Tryz.zeroValue211
  i60:=by kernel_rfl
  t61:=Tryz.underlying223
  a61:=Tryz.isAgg223
  z61:=Tryz.sizeOf223
  t65:=Tryz.underlying281
  a65:=Tryz.isAgg281
  z65:=Tryz.sizeOf281
  v65:=Tryz.zeroValue281
  i65:=by kernel_rfl
  t66:=Tryz.underlying282
  a66:=Tryz.isAgg282
  z66:=Tryz.sizeOf282
  v66:=Tryz.zeroValue282
  i66:=by kernel_rfl
  t67:=Tryz.underlying119
  a67:=Tryz.isAgg119
  z67:=Tryz.sizeOf119
  v67:=Tryz.zeroValue119
  i67:=by kernel_rfl
  g0:=by kernel_rfl
  m0:=by kernel_rfl
  g1:=by kernel_rfl
  m1:=by kernel_rfl
  g2:=by kernel_rfl
  m2:=by kernel_rfl
  g3:=by kernel_rfl
  m3:=by kernel_rfl
  g4:=by kernel_rfl
  m4:=by kernel_rfl }
open Go.RowKit in
theorem Tryz.strconv_ParseUint_10_at64_ok (s:ByteArray) (hmax:s.size<=9223372036854775806) (u:Nat) (h:Lib.parseUintB 64 s.data.toList=.ok u) (w:World) :
    Calls Tryz.prog 140 #[.string s,.int .i64 10,.int .i64 64] w fun e w'=>e=.returned (.tuple #[.int .u64 u,.nilIface])/\(w'=w∨w'=Lib.bytesWorld w 5 s):=Any.strconv_ParseUint_10_at64_ok Tryz.laysPu14 s hmax u h w
open Go.RowKit in
theorem Tryz.strconv_ParseUint_10_at64_range (s:ByteArray) (hlim:s.size<=281474976710656) (h:Lib.parseUintB 64 s.data.toList=.range) (ev:Value) (w:World) (hv:w.cell? ⟨4,0,none⟩=some ev) (hev:ev=.nilIface∨∃ te pe,ev=.iface te pe) :
    Calls Tryz.prog 140 #[.string s,.int .i64 10,.int .i64 64] w fun e w'=>∃ N,e=.returned (.tuple #[.int .u64 18446744073709551615,.iface 208 (.pointer (some ⟨N,0,none⟩))])/\w.heap.size<=N/\w'.heap[N]?=some (.cells #[.string ⟨#[80,97,114,115,101,85,105,110,116]⟩,.string s,ev] 243 (0,0))/\Below w.heap.size w w':=Any.strconv_ParseUint_10_at64_range Tryz.laysPu14 s hlim h ev w hv hev
def Tryz.lays219_ren:Go.Shelf.Ren:=⟨fun | 219=>233 | 217=>144 | 225=>273 | 224=>274 | 267=>275 | 266=>189 | 314=>301 | n=>n,fun | 9=>9 | 3=>3 | 4=>4 | 5=>5 | 46=>173 | 146=>212 | 51=>211 | n=>n,fun | 1=>0 | n=>n⟩
def Tryz.lays143_ren:Go.Shelf.Ren:=⟨fun | 143=>192 | 219=>233 | 217=>144 | 225=>273 | 224=>274 | 267=>275 | 266=>189 | 314=>301 | n=>n,fun | 9=>9 | 3=>3 | 4=>4 | 5=>5 | 46=>173 | 146=>212 | 51=>211 | n=>n,fun | 1=>0 | n=>n⟩
theorem Tryz.lays143:Go.Proofs.Lays.n143 Tryz.prog Tryz.lays143_ren:={
  mixed:=by kernel_rfl
  f143:=Tryz.func192.trans (congrArg some (by kernel_rfl))
  f217:=Tryz.func144.trans (congrArg some (by kernel_rfl))
  f219:=Tryz.func233.trans (congrArg some (by kernel_rfl))
  f224:=Tryz.func274.trans (congrArg some (by kernel_rfl))
  f225:=Tryz.func273.trans (congrArg some (by kernel_rfl))
  f266:=Tryz.func189.trans (congrArg some (by kernel_rfl))
  f267:=Tryz.func275.trans (congrArg some (by kernel_rfl))
  f314:=Tryz.func301.trans (congrArg some (by kernel_rfl))
  t3:=Tryz.underlying3
  a3:=Tryz.isAgg3
  z3:=Tryz.sizeOf3
  v3:=Tryz.zeroValue3
  t4:=Tryz.underlying4
  a4:=Tryz.isAgg4
  z4:=Tryz.sizeOf4
  v4:=Tryz.zeroValue4
  t5:=Tryz.underlying5
  a5:=Tryz.isAgg5
  z5:=Tryz.sizeOf5
  v5:=Tryz.zeroValue5
  t9:=Tryz.underlying9
  a9:=Tryz.isAgg9
  z9:=Tryz.sizeOf9
  v9:=Tryz.zeroValue9
  t46:=Tryz.underlying173
  a46:=Tryz.isAgg173
  z46:=Tryz.sizeOf173
  v46:=Tryz.zeroValue173
  t51:=Tryz.underlying211
  a51:=Tryz.isAgg211
  z51:=Tryz.sizeOf211
  v51:=Tryz.zeroValue211
  t146:=Tryz.underlying212
  a146:=Tryz.isAgg212
  z146:=Tryz.sizeOf212
  v146:=Tryz.zeroValue212
  g1:=by kernel_rfl }
open Go.RowKit Go.Lib in
theorem Tryz.strings_Index (s sub:ByteArray) (m:Int) (w:World) (hs:s.size<4294967281) (hm:w.cell? ⟨0,0,none⟩=some (.int .i64 m)) :
    Calls Tryz.prog 192 #[.string s,.string sub] w fun e w'=>e=.returned (.int .i64 (Lib.index s.data.toList sub.data.toList))/\w'=w:=Any.strings_Index Tryz.lays143 s sub m w hs hm
def Tryz.lays99_ren:Go.Shelf.Ren:=⟨fun | 99=>184 | 206=>227 | n=>n,fun | 9=>9 | 4=>4 | 3=>3 | n=>n,fun | n=>n⟩
theorem Tryz.lays99:Go.Proofs.Lays.n99 Tryz.prog Tryz.lays99_ren:={
  mixed:=by kernel_rfl
  f99:=Tryz.func184.trans (congrArg some (by kernel_rfl))
  f206:=Tryz.func227.trans (congrArg some (by kernel_rfl))
  t3:=Tryz.underlying3
  a3:=Tryz.isAgg3
  z3:=Tryz.sizeOf3
  v3:=Tryz.zeroValue3
  t4:=Tryz.underlying4
  a4:=Tryz.isAgg4
  z4:=Tryz.sizeOf4
  v4:=Tryz.zeroValue4
  t9:=Tryz.underlying9
  a9:=Tryz.isAgg9
  z9:=Tryz.sizeOf9
  v9:=Tryz.zeroValue9 }
open Go.RowKit Go.Lib in
theorem Tryz.strings_HasPrefix (s p:ByteArray) (w:World) :
    Calls Tryz.prog 184 #[.string s,.string p] w fun e w'=>e=.returned (.bool (Lib.hasPrefix s.data.toList p.data.toList))/\w'=w:=Any.strings_HasPrefix Tryz.lays99 s p w
def Tryz.lays221_ren:Go.Shelf.Ren:=⟨fun | 221=>145 | 268=>190 | 138=>191 | 143=>192 | 195=>230 | 197=>231 | 218=>232 | 219=>233 | 260=>272 | 217=>144 | 225=>273 | 224=>274 | 267=>275 | 266=>189 | 314=>301 | n=>n,fun | 9=>9 | 3=>3 | 31=>26 | 4=>4 | 0=>0 | 105=>189 | 21=>21 | 5=>5 | 46=>173 | 119=>274 | 139=>277 | 138=>276 | 146=>212 | 51=>211 | n=>n,fun | 1=>0 | 3=>6 | 4=>7 | n=>n⟩
def Tryz.lays147_ren:Go.Shelf.Ren:=⟨fun | 147=>105 | 221=>145 | 268=>190 | 138=>191 | 143=>192 | 195=>230 | 197=>231 | 218=>232 | 219=>233 | 260=>272 | 217=>144 | 225=>273 | 224=>274 | 267=>275 | 266=>189 | 314=>301 | n=>n,fun | 9=>9 | 3=>3 | 31=>26 | 4=>4 | 0=>0 | 105=>189 | 21=>21 | 5=>5 | 46=>173 | 119=>274 | 139=>277 | 138=>276 | 146=>212 | 51=>211 | n=>n,fun | 1=>0 | 3=>6 | 4=>7 | n=>n⟩
theorem Tryz.lays147:Go.Proofs.Lays.n147 Tryz.prog Tryz.lays147_ren:={
  mixed:=by kernel_rfl
  f138:=Tryz.func191.trans (congrArg some (by kernel_rfl))
  f143:=Tryz.func192.trans (congrArg some (by kernel_rfl))
  f147:=Tryz.func105.trans (congrArg some (by kernel_rfl))
  f195:=Tryz.func230.trans (congrArg some (by kernel_rfl))
  f197:=Tryz.func231.trans (congrArg some (by kernel_rfl))
  f217:=Tryz.func144.trans (congrArg some (by kernel_rfl))
  f218:=Tryz.func232.trans (congrArg some (by kernel_rfl))
  f219:=Tryz.func233.trans (congrArg some (by kernel_rfl))
  f221:=Tryz.func145.trans (congrArg some (by kernel_rfl))
  f224:=Tryz.func274.trans (congrArg some (by kernel_rfl))
  f225:=Tryz.func273.trans (congrArg some (by kernel_rfl))
  f260:=Tryz.func272.trans (congrArg some (by kernel_rfl))
  f266:=Tryz.func189.trans (congrArg some (by kernel_rfl))
  f267:=Tryz.func275.trans (congrArg some (by kernel_rfl))
  f268:=Tryz.func190.trans (congrArg some (by kernel_rfl))
  f314:=Tryz.func301.trans (congrArg some (by kernel_rfl))
  t0:=Tryz.underlying0
  a0:=Tryz.isAgg0
  z0:=Tryz.sizeOf0
  v0:=Tryz.zeroValue0
  t3:=Tryz.underlying3
  a3:=Tryz.isAgg3
  z3:=Tryz.sizeOf3
  v3:=Tryz.zeroValue3
  t4:=Tryz.underlying4
  a4:=Tryz.isAgg4
  z4:=Tryz.sizeOf4
  v4:=Tryz.zeroValue4
  t5:=Tryz.underlying5
  a5:=Tryz.isAgg5
  z5:=Tryz.sizeOf5
  v5:=Tryz.zeroValue5
  t9:=Tryz.underlying9
  a9:=Tryz.isAgg9
  z9:=Tryz.sizeOf9
  v9:=Tryz.zeroValue9
  t21:=Tryz.underlying21
  a21:=Tryz.isAgg21
  z21:=Tryz.sizeOf21
  v21:=Tryz.zeroValue21
  t31:=Tryz.underlying26
  a31:=Tryz.isAgg26
  z31:=Tryz.sizeOf26
  v31:=Tryz.zeroValue26
  t46:=Tryz.underlying173
  a46:=Tryz.isAgg173
  z46:=Tryz.sizeOf173
  v46:=Tryz.zeroValue173
  t51:=Tryz.underlying211
  a51:=Tryz.isAgg211
  z51:=Tryz.sizeOf211
  v51:=Tryz.zeroValue211
  t105:=Tryz.underlying189
  a105:=Tryz.isAgg189
  z105:=Tryz.sizeOf189
  v105:=Tryz.zeroValue189
  t119:=Tryz.underlying274
  a119:=Tryz.isAgg274
  z119:=Tryz.sizeOf274
  t138:=Tryz.underlying276
  a138:=Tryz.isAgg276
  z138:=Tryz.sizeOf276
  v138:=Tryz.zeroValue276
  t139:=Tryz.underlying277
  a139:=Tryz.isAgg277
  z139:=Tryz.sizeOf277
  v139:=Tryz.zeroValue277
  t146:=Tryz.underlying212
  a146:=Tryz.isAgg212
  z146:=Tryz.sizeOf212
  v146:=Tryz.zeroValue212
  g1:=by kernel_rfl
  g3:=by kernel_rfl
  g4:=by kernel_rfl }
open Go.RowKit Go.Lib in
theorem Tryz.strings_SplitN (s sep:ByteArray) (n:Nat) (m:Int) (w:World) (hs:s.size<4294967281) (hm:w.cell? ⟨0,0,none⟩=some (.int .i64 m)) (h1:1<=sep.size) (hn:1<=n) (hn63:n<=9223372036854775807) :
    Calls Tryz.prog 105 #[.string s,.string sep,.int .i64 n] w fun e w'=>
      e=.returned (.slice (some ⟨w.heap.size,0,none⟩) (Lib.splitB sep 0 (min n (s.size+1)-1) s).length (min n (s.size+1)))/\w'=w.alloc (.cells (Lib.cellsOf (Lib.splitB sep 0 (min n (s.size+1)-1) s) (min n (s.size+1))) 9):=Any.strings_SplitN Tryz.lays147 (by kernel_rfl) s sep n m w hs hm h1 hn hn63
def Tryz.lays153_ren:Go.Shelf.Ren:=⟨fun | 153=>261 | 152=>242 | 226=>296 | 227=>150 | 228=>199 | 137=>104 | 119=>282 | 224=>274 | 225=>273 | 217=>144 | 266=>189 | n=>n,fun | 9=>9 | 3=>3 | 4=>4 | 5=>5 | 21=>21 | 117=>149 | 116=>148 | 0=>0 | 46=>173 | 124=>152 | n=>n,fun | n=>n⟩
theorem Tryz.lays153:Go.Proofs.Lays.n153 Tryz.prog Tryz.lays153_ren:={
  mixed:=by kernel_rfl
  f119:=Tryz.func282.trans (congrArg some (by kernel_rfl))
  f137:=Tryz.func104.trans (congrArg some (by kernel_rfl))
  f152:=Tryz.func242.trans (congrArg some (by kernel_rfl))
  f153:=Tryz.func261.trans (congrArg some (by kernel_rfl))
  f217:=Tryz.func144.trans (congrArg some (by kernel_rfl))
  f224:=Tryz.func274.trans (congrArg some (by kernel_rfl))
  f225:=Tryz.func273.trans (congrArg some (by kernel_rfl))
  f226:=Tryz.func296.trans (congrArg some (by kernel_rfl))
  f227:=Tryz.func150.trans (congrArg some (by kernel_rfl))
  f228:=Tryz.func199.trans (congrArg some (by kernel_rfl))
  f266:=Tryz.func189.trans (congrArg some (by kernel_rfl))
  t0:=Tryz.underlying0
  a0:=Tryz.isAgg0
  z0:=Tryz.sizeOf0
  v0:=Tryz.zeroValue0
  t3:=Tryz.underlying3
  a3:=Tryz.isAgg3
  z3:=Tryz.sizeOf3
  v3:=Tryz.zeroValue3
  t4:=Tryz.underlying4
  a4:=Tryz.isAgg4
  z4:=Tryz.sizeOf4
  v4:=Tryz.zeroValue4
  t5:=Tryz.underlying5
  a5:=Tryz.isAgg5
  z5:=Tryz.sizeOf5
  v5:=Tryz.zeroValue5
  t9:=Tryz.underlying9
  a9:=Tryz.isAgg9
  z9:=Tryz.sizeOf9
  v9:=Tryz.zeroValue9
  t21:=Tryz.underlying21
  a21:=Tryz.isAgg21
  z21:=Tryz.sizeOf21
  v21:=Tryz.zeroValue21
  t46:=Tryz.underlying173
  a46:=Tryz.isAgg173
  z46:=Tryz.sizeOf173
  v46:=Tryz.zeroValue173
  t116:=Tryz.underlying148
  a116:=Tryz.isAgg148
  z116:=Tryz.sizeOf148
  t117:=Tryz.underlying149
  a117:=Tryz.isAgg149
  z117:=Tryz.sizeOf149
  v117:=Tryz.zeroValue149
  t124:=Tryz.underlying152
  a124:=Tryz.isAgg152
  z124:=Tryz.sizeOf152
  v124:=Tryz.zeroValue152 }
open Go.RowKit Go.Lib in
theorem Tryz.strings_IndexAny_laid (s chars:ByteArray) (w:World) (hs:s.size<4294967281) (hcs:chars.size<4294967281) (has:∀ (j:Nat) b,s.data.toList[j]?=some b->b.toNat<128) (hac:∀ (j:Nat) b,chars.data.toList[j]?=some b->b.toNat<128) :
    Calls Tryz.prog 261 #[.string s,.string chars] w fun e w'=>e=.returned (.int .i64 (Lib.indexAny s.data.toList chars.data.toList))/\Below w.heap.size w w':=Any.strings_IndexAny_laid Tryz.lays153 (by kernel_rfl) s chars w hs hcs has hac
def Tryz.lays105_ren:Go.Shelf.Ren:=⟨fun | 105=>141 | 212=>183 | 99=>184 | 165=>185 | 166=>186 | 170=>187 | 169=>188 | 263=>225 | 264=>226 | 206=>227 | 240=>228 | 241=>229 | 276=>270 | 277=>271 | n=>n,fun | 9=>9 | 3=>3 | 4=>4 | 20=>20 | 0=>0 | 46=>173 | 109=>174 | 5=>5 | 72=>91 | 76=>178 | 51=>211 | 146=>212 | 53=>32 | 148=>214 | 70=>88 | 37=>89 | 75=>140 | 127=>216 | 164=>245 | 80=>119 | n=>n,fun | n=>n⟩
theorem Tryz.lays105:Go.Proofs.Lays.n105 Tryz.prog Tryz.lays105_ren:={
  mixed:=by kernel_rfl
  f99:=Tryz.func184.trans (congrArg some (by kernel_rfl))
  f105:=Tryz.func141.trans (congrArg some (by kernel_rfl))
  f165:=Tryz.func185.trans (congrArg some (by kernel_rfl))
  f166:=Tryz.func186.trans (congrArg some (by kernel_rfl))
  f169:=Tryz.func188.trans (congrArg some (by kernel_rfl))
  f170:=Tryz.func187.trans (congrArg some (by kernel_rfl))
  f206:=Tryz.func227.trans (congrArg some (by kernel_rfl))
  f212:=Tryz.func183.trans (congrArg some (by kernel_rfl))
  f240:=Tryz.func228.trans (congrArg some (by kernel_rfl))
  f241:=Tryz.func229.trans (congrArg some (by kernel_rfl))
  f263:=Tryz.func225.trans (congrArg some (by kernel_rfl))
  f264:=Tryz.func226.trans (congrArg some (by kernel_rfl))
  f276:=Tryz.func270.trans (congrArg some (by kernel_rfl))
  f277:=Tryz.func271.trans (congrArg some (by kernel_rfl))
  t0:=Tryz.underlying0
  a0:=Tryz.isAgg0
  z0:=Tryz.sizeOf0
  v0:=Tryz.zeroValue0
  t3:=Tryz.underlying3
  a3:=Tryz.isAgg3
  z3:=Tryz.sizeOf3
  v3:=Tryz.zeroValue3
  t4:=Tryz.underlying4
  a4:=Tryz.isAgg4
  z4:=Tryz.sizeOf4
  v4:=Tryz.zeroValue4
  t5:=Tryz.underlying5
  a5:=Tryz.isAgg5
  z5:=Tryz.sizeOf5
  v5:=Tryz.zeroValue5
  t9:=Tryz.underlying9
  a9:=Tryz.isAgg9
  z9:=Tryz.sizeOf9
  v9:=Tryz.zeroValue9
  t20:=Tryz.underlying20
  a20:=Tryz.isAgg20
  z20:=Tryz.sizeOf20
  v20:=Tryz.zeroValue20
  t37:=Tryz.underlying89
  a37:=Tryz.isAgg89
  z37:=Tryz.sizeOf89
  v37:=Tryz.zeroValue89
  t46:=Tryz.underlying173
  a46:=Tryz.isAgg173
  z46:=Tryz.sizeOf173
  v46:=Tryz.zeroValue173
  t51:=Tryz.underlying211
  a51:=Tryz.isAgg211
  z51:=Tryz.sizeOf211
  v51:=Tryz.zeroValue211
  t53:=Tryz.underlying32
  a53:=Tryz.isAgg32
  z53:=Tryz.sizeOf32
  v53:=Tryz.zeroValue32
  t70:=Tryz.underlying88
  a70:=Tryz.isAgg88
  z70:=Tryz.sizeOf88
  v70:=Tryz.zeroValue88
  t72:=Tryz.underlying91
  a72:=Tryz.isAgg91
  z72:=Tryz.sizeOf91
  v72:=Tryz.zeroValue91
  t75:=Tryz.underlying140
  a75:=Tryz.isAgg140
  z75:=Tryz.sizeOf140
  v75:=Tryz.zeroValue140
  t76:=Tryz.underlying178
  a76:=Tryz.isAgg178
  z76:=Tryz.sizeOf178
  v76:=Tryz.zeroValue178
  t109:=Tryz.underlying174
  a109:=Tryz.isAgg174
  z109:=Tryz.sizeOf174
  v109:=Tryz.zeroValue174
  t127:=Tryz.underlying216
  a127:=Tryz.isAgg216
  z127:=Tryz.sizeOf216
  v127:=Tryz.zeroValue216
  t146:=Tryz.underlying212
  a146:=Tryz.isAgg212
  z146:=Tryz.sizeOf212
  v146:=Tryz.zeroValue212
  t148:=Tryz.underlying214
  a148:=Tryz.isAgg214
  z148:=Tryz.sizeOf214
  v148:=Tryz.zeroValue214
  t164:=Tryz.underlying245
  a164:=Tryz.isAgg245
  z164:=Tryz.sizeOf245
  v164:=Tryz.zeroValue245 }
theorem Tryz.Builder_Extra_105:Builder.Extra Tryz.prog Tryz.lays105_ren:={
  sizeBuilder:=by kernel_rfl
  liesBuilder:=by kernel_rfl
  t5:=Tryz.underlying5
  a5:=Tryz.isAgg5
  z5:=Tryz.sizeOf5
  v5:=Tryz.zeroValue5
  infoByte:=by kernel_rfl
  cellsByte:=by kernel_rfl
  sizeByte:=by kernel_rfl
  neB5:=by decide }
open Go.RowKit Go.Lib in
theorem Tryz.strings_Repeat (s:ByteArray) (c:Nat) (w:World) (hc:c<=9223372036854775807) (hlen:s.size*c<=140737488355328) :
    Calls Tryz.prog 141 #[.string s,.int .i64 c] w fun e w'=>e=.returned (.string ⟨(Lib.repeatL s.data.toList c).toArray⟩)/\Below w.heap.size w w':=Any.strings_Repeat Tryz.lays105 Tryz.Builder_Extra_105 s c w hc hlen
end Go.Proofs
