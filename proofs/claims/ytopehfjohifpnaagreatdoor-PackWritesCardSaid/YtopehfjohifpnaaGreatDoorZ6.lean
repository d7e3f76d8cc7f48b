import Derived.Shelf.Strings.Builder1
import Derived.Shelf.Strings.Builder2
import Derived.Shelf.Strings.OnBuilder
import Derived.Shelf.Small.Utf8
import Derived.Shelf.Small.Strs
import Derived.Shelf.Strings.BuilderF
import Derived.Shelf.Strings.BuilderK
import Derived.Shelf.Strings.Builder2Cap
import Derived.Shelf.Strconv.Itoa0
import Derived.Shelf.Strconv.Itoa1
import Derived.Shelf.LaysM
import Derived.Shelf.Strconv.Itoa2
import Derived.Shelf.Strconv.Itoa3
import Derived.Shelf.Strings.Search1
import Derived.Shelf.Strings.Search2
import Derived.Shelf.Strings.Search3
import Derived.Shelf.Strings.Cut
import Derived.Shelf.Strings.Count
import Derived.Shelf.Strings.Shaped
import Derived.Shelf.Strings.LastIndex
import Derived.Shelf.Strconv.AppendUint10
import Derived.Shelf.Strconv.AppendInt10
import Derived.Shelf.Strconv.AppendIntPublic10
import Derived.Shelf.Strings.Split
import Derived.Shelf.Strings.SplitShaped
import Derived.Shelf.Strings.Runes
import Derived.Shelf.Strings.IndexAny
import Derived.Shelf.Strings.AsciiSet
import Derived.Shelf.Strings.IndexAnyAll
import Derived.Shelf.Unicode.DecodeSlow
import Derived.Test.YtopehfjohifpnaaGreatDoorProg
import Derived.Test.YtopehfjohifpnaaGreatDoorZ4
import Derived.WalkLawsBesides
import Derived.Laws.CopyOwn
import Derived.Test.YtopehfjohifpnaaGreatDoorZ5
import Derived.Lib.IndexLaws
import Derived.Lib.IndexBytes
import Derived.Lib.OthersKept
section
namespace Go.Proofs
open Go.Shelf
def Tryz.lays156_ren : Go.Shelf.Ren := ⟨fun | 156 => 120 | 165 => 134 | 166 => 135 | 169 => 136 | 240 => 147 | 241 => 148 | 276 => 157 | 277 => 158 | n => n, fun | 31 => 151 | 9 => 9 | 3 => 3 | 4 => 4 | 0 => 0 | 20 => 20 | 72 => 175 | 76 => 179 | 70 => 173 | 37 => 24 | 75 => 178 | 127 => 194 | 164 => 201 | 5 => 5 | 80 => 181 | n => n, fun | n => n⟩
theorem Tryz.lays156 : Go.Proofs.Lays.n156 Tryz.prog Tryz.lays156_ren := {
  mixed := by kernel_rfl
  f156 := Tryz.func120.trans (congrArg some (by kernel_rfl))
  f165 := Tryz.func134.trans (congrArg some (by kernel_rfl))
  f166 := Tryz.func135.trans (congrArg some (by kernel_rfl))
  f169 := Tryz.func136.trans (congrArg some (by kernel_rfl))
  f240 := Tryz.func147.trans (congrArg some (by kernel_rfl))
  f241 := Tryz.func148.trans (congrArg some (by kernel_rfl))
  f276 := Tryz.func157.trans (congrArg some (by kernel_rfl))
  f277 := Tryz.func158.trans (congrArg some (by kernel_rfl))
  t0 := Tryz.underlying0
  a0 := Tryz.isAgg0
  z0 := Tryz.sizeOf0
  v0 := Tryz.zeroValue0
  t3 := Tryz.underlying3
  a3 := Tryz.isAgg3
  z3 := Tryz.sizeOf3
  v3 := Tryz.zeroValue3
  t4 := Tryz.underlying4
  a4 := Tryz.isAgg4
  z4 := Tryz.sizeOf4
  v4 := Tryz.zeroValue4
  t9 := Tryz.underlying9
  a9 := Tryz.isAgg9
  z9 := Tryz.sizeOf9
  v9 := Tryz.zeroValue9
  t20 := Tryz.underlying20
  a20 := Tryz.isAgg20
  z20 := Tryz.sizeOf20
  v20 := Tryz.zeroValue20
  t31 := Tryz.underlying151
  a31 := Tryz.isAgg151
  z31 := Tryz.sizeOf151
  v31 := Tryz.zeroValue151
  t37 := Tryz.underlying24
  a37 := Tryz.isAgg24
  z37 := Tryz.sizeOf24
  v37 := Tryz.zeroValue24
  t70 := Tryz.underlying173
  a70 := Tryz.isAgg173
  z70 := Tryz.sizeOf173
  v70 := Tryz.zeroValue173
  t72 := Tryz.underlying175
  a72 := Tryz.isAgg175
  z72 := Tryz.sizeOf175
  v72 := Tryz.zeroValue175
  t75 := Tryz.underlying178
  a75 := Tryz.isAgg178
  z75 := Tryz.sizeOf178
  v75 := Tryz.zeroValue178
  t76 := Tryz.underlying179
  a76 := Tryz.isAgg179
  z76 := Tryz.sizeOf179
  v76 := Tryz.zeroValue179
  t127 := Tryz.underlying194
  a127 := Tryz.isAgg194
  z127 := Tryz.sizeOf194
  v127 := Tryz.zeroValue194
  t164 := Tryz.underlying201
  a164 := Tryz.isAgg201
  z164 := Tryz.sizeOf201
  v164 := Tryz.zeroValue201 }
theorem Tryz.Builder_Extra_156 : Builder.Extra Tryz.prog Tryz.lays156_ren := {
  sizeBuilder := by kernel_rfl
  liesBuilder := by kernel_rfl
  t5 := Tryz.underlying5
  a5 := Tryz.isAgg5
  z5 := Tryz.sizeOf5
  v5 := Tryz.zeroValue5
  infoByte := by kernel_rfl
  cellsByte := by kernel_rfl
  sizeByte := by kernel_rfl
  neB5 := by decide }
open Go.RowKit in
theorem Tryz.strings_Join (bk o c : Nat) (xs : List ByteArray) (sep : ByteArray) (w : World) (hcells : ∀ (j : Nat) x, xs[j]? = some x → w.cell? ⟨bk, o + j, none⟩ = some (.string x)) (hbk : bk < w.heap.size) (hN : xs.length ≤ 140737488355328) (hcap : xs.length ≤ c) (hlen : (Lib.join (xs.map (·.data.toList)) sep.data.toList).length ≤ 140737488355328) :
    Calls Tryz.prog 120 #[.slice (some ⟨bk, o, none⟩) xs.length c, .string sep] w fun e w' => e = .returned (.string ⟨(Lib.join (xs.map (·.data.toList)) sep.data.toList).toArray⟩) ∧ Below w.heap.size w w' := Any.strings_Join Tryz.lays156 Tryz.Builder_Extra_156 bk o c xs sep w hcells hbk hN hcap hlen
def Tryz.lays119_ren : Go.Shelf.Ren := ⟨fun | 119 => 138 | n => n, fun | 21 => 21 | 4 => 4 | n => n, fun | n => n⟩
theorem Tryz.lays119 : Go.Proofs.Lays.n119 Tryz.prog Tryz.lays119_ren := {
  mixed := by kernel_rfl
  f119 := Tryz.func138.trans (congrArg some (by kernel_rfl))
  t4 := Tryz.underlying4
  a4 := Tryz.isAgg4
  z4 := Tryz.sizeOf4
  v4 := Tryz.zeroValue4
  t21 := Tryz.underlying21
  a21 := Tryz.isAgg21
  z21 := Tryz.sizeOf21
  v21 := Tryz.zeroValue21 }
theorem Tryz.utf8_ValidRune (r : Int) (w : World) :
    Calls Tryz.prog 138 #[.int .i32 r] w fun e w' => e = .returned (.bool (Lib.validRune r)) ∧ w' = w := Any.utf8_ValidRune Tryz.lays119 r w
def Tryz.lays137_ren : Go.Shelf.Ren := ⟨fun | 137 => 75 | 217 => 94 | 266 => 112 | n => n, fun | 9 => 9 | 5 => 5 | 3 => 3 | n => n, fun | n => n⟩
theorem Tryz.lays137 : Go.Proofs.Lays.n137 Tryz.prog Tryz.lays137_ren := {
  mixed := by kernel_rfl
  f137 := Tryz.func75.trans (congrArg some (by kernel_rfl))
  f217 := Tryz.func94.trans (congrArg some (by kernel_rfl))
  f266 := Tryz.func112.trans (congrArg some (by kernel_rfl))
  t3 := Tryz.underlying3
  a3 := Tryz.isAgg3
  z3 := Tryz.sizeOf3
  v3 := Tryz.zeroValue3
  t5 := Tryz.underlying5
  a5 := Tryz.isAgg5
  z5 := Tryz.sizeOf5
  v5 := Tryz.zeroValue5
  t9 := Tryz.underlying9
  a9 := Tryz.isAgg9
  z9 := Tryz.sizeOf9
  v9 := Tryz.zeroValue9 }
open Go.RowKit in
theorem Tryz.strings_IndexByte (s : ByteArray) (c : Int) (w : World) :
    Calls Tryz.prog 75 #[.string s, .int .u8 c] w fun e w' => e = .returned (.int .i64 (Lib.indexByte s.data.toList c.toNat.toUInt8)) ∧ w' = w := Any.strings_IndexByte Tryz.lays137 s c w
def Tryz.laysM171_ren : Go.Shelf.Ren := ⟨fun | 171 => 115 | 243 => 129 | 246 => 143 | 283 => 139 | 284 => 140 | 285 => 141 | 286 => 142 | 129 => 150 | 317 => 149 | 318 => 151 | 319 => 152 | 320 => 153 | 337 => 159 | 338 => 160 | n => n, fun | 3 => 3 | 9 => 9 | 2 => 2 | 4 => 4 | 171 => 187 | 0 => 0 | 53 => 169 | 37 => 24 | 5 => 5 | 173 => 190 | 212 => 196 | 51 => 182 | 20 => 20 | 213 => 197 | 46 => 145 | 232 => 205 | 233 => 206 | n => n, fun | 17 => 2 | 18 => 3 | 19 => 4 | n => n⟩
theorem Tryz.laysM171 : Go.Proofs.LaysM.n171 Tryz.prog Tryz.laysM171_ren := {
  mixed := by kernel_rfl
  f129 := Tryz.func150.trans (congrArg some (by kernel_rfl))
  f171 := Tryz.func115.trans (congrArg some (by kernel_rfl))
  f243 := Tryz.func129.trans (congrArg some (by kernel_rfl))
  f246 := Tryz.func143.trans (congrArg some (by kernel_rfl))
  f283 := Tryz.func139.trans (congrArg some (by kernel_rfl))
  f284 := Tryz.func140.trans (congrArg some (by kernel_rfl))
  f285 := Tryz.func141.trans (congrArg some (by kernel_rfl))
  f286 := Tryz.func142.trans (congrArg some (by kernel_rfl))
  f317 := Tryz.func149.trans (congrArg some (by kernel_rfl))
  f318 := Tryz.func151.trans (congrArg some (by kernel_rfl))
  f319 := Tryz.func152.trans (congrArg some (by kernel_rfl))
  f320 := Tryz.func153.trans (congrArg some (by kernel_rfl))
  f337 := Tryz.func159.trans (congrArg some (by kernel_rfl))
  f338 := Tryz.func160.trans (congrArg some (by kernel_rfl))
  t0 := Tryz.underlying0
  a0 := Tryz.isAgg0
  z0 := Tryz.sizeOf0
  v0 := Tryz.zeroValue0
  t2 := Tryz.underlying2
  a2 := Tryz.isAgg2
  z2 := Tryz.sizeOf2
  v2 := Tryz.zeroValue2
  t3 := Tryz.underlying3
  a3 := Tryz.isAgg3
  z3 := Tryz.sizeOf3
  v3 := Tryz.zeroValue3
  t4 := Tryz.underlying4
  a4 := Tryz.isAgg4
  z4 := Tryz.sizeOf4
  v4 := Tryz.zeroValue4
  t5 := Tryz.underlying5
  a5 := Tryz.isAgg5
  z5 := Tryz.sizeOf5
  v5 := Tryz.zeroValue5
  t9 := Tryz.underlying9
  a9 := Tryz.isAgg9
  z9 := Tryz.sizeOf9
  v9 := Tryz.zeroValue9
  t20 := Tryz.underlying20
  a20 := Tryz.isAgg20
  z20 := Tryz.sizeOf20
  v20 := Tryz.zeroValue20
  t37 := Tryz.underlying24
  a37 := Tryz.isAgg24
  z37 := Tryz.sizeOf24
  v37 := Tryz.zeroValue24
  t46 := Tryz.underlying145
  a46 := Tryz.isAgg145
  z46 := Tryz.sizeOf145
  v46 := Tryz.zeroValue145
  t51 := Tryz.underlying182
  a51 := Tryz.isAgg182
  z51 := Tryz.sizeOf182
  v51 := Tryz.zeroValue182
  t53 := Tryz.underlying169
  a53 := Tryz.isAgg169
  z53 := Tryz.sizeOf169
  v53 := Tryz.zeroValue169
  t171 := Tryz.underlying187
  a171 := Tryz.isAgg187
  z171 := Tryz.sizeOf187
  v171 := Tryz.zeroValue187
  t173 := Tryz.underlying190
  a173 := Tryz.isAgg190
  z173 := Tryz.sizeOf190
  v173 := Tryz.zeroValue190
  t212 := Tryz.underlying196
  a212 := Tryz.isAgg196
  z212 := Tryz.sizeOf196
  v212 := Tryz.zeroValue196
  t213 := Tryz.underlying197
  a213 := Tryz.isAgg197
  z213 := Tryz.sizeOf197
  t232 := Tryz.underlying205
  a232 := Tryz.isAgg205
  z232 := Tryz.sizeOf205
  v232 := Tryz.zeroValue205
  t233 := Tryz.underlying206
  a233 := Tryz.isAgg206
  z233 := Tryz.sizeOf206
  v233 := Tryz.zeroValue206
  g17 := by kernel_rfl
  g18 := by kernel_rfl
  g19 := by kernel_rfl
  i0 := by kernel_rfl
  i2 := by kernel_rfl
  i3 := by kernel_rfl
  i4 := by kernel_rfl
  i5 := by kernel_rfl
  i9 := by kernel_rfl
  i20 := by kernel_rfl
  i37 := by kernel_rfl
  i46 := by kernel_rfl
  i51 := by kernel_rfl
  i53 := by kernel_rfl
  i171 := by kernel_rfl
  i173 := by kernel_rfl
  i212 := by kernel_rfl
  i232 := by kernel_rfl
  i233 := by kernel_rfl
  m17 := by kernel_rfl
  m18 := by kernel_rfl
  m19 := by kernel_rfl }
open Go.RowKit Go.Sort Go.Lib in
theorem Tryz.strconv_Itoa (n : Int) (h0 : -9223372036854775808 ≤ n) (h1 : n ≤ 9223372036854775807) (w : World) (htab : Lib.TabIs Tryz.prog w "internal/strconv.uint64pow10" .u64 Lib.pow10Tab) :
    Calls Tryz.prog 115 #[.int .i64 n] w fun e w' => e = .returned (.string ⟨(Lib.itoa n).toArray⟩) ∧ ∃ k os, w' = grow (w.drewN k) os := Any.strconv_Itoa Tryz.laysM171 n h0 h1 w htab
def Tryz.lays149_ren : Go.Shelf.Ren := ⟨fun | 149 => 69 | 222 => 90 | n => n, fun | 9 => 9 | 5 => 5 | 3 => 3 | 4 => 4 | n => n, fun | n => n⟩
theorem Tryz.lays149 : Go.Proofs.Lays.n149 Tryz.prog Tryz.lays149_ren := {
  mixed := by kernel_rfl
  f149 := Tryz.func69.trans (congrArg some (by kernel_rfl))
  f222 := Tryz.func90.trans (congrArg some (by kernel_rfl))
  t3 := Tryz.underlying3
  a3 := Tryz.isAgg3
  z3 := Tryz.sizeOf3
  v3 := Tryz.zeroValue3
  t4 := Tryz.underlying4
  a4 := Tryz.isAgg4
  z4 := Tryz.sizeOf4
  v4 := Tryz.zeroValue4
  t5 := Tryz.underlying5
  a5 := Tryz.isAgg5
  z5 := Tryz.sizeOf5
  v5 := Tryz.zeroValue5
  t9 := Tryz.underlying9
  a9 := Tryz.isAgg9
  z9 := Tryz.sizeOf9
  v9 := Tryz.zeroValue9 }
open Go.RowKit Go.Lib in
theorem Tryz.strings_LastIndexByte (s : ByteArray) (c : Int) (hs : s.size < 4611686018427387904) (w : World) :
    Calls Tryz.prog 69 #[.string s, .int .u8 c] w fun e w' => e = .returned (.int .i64 (Lib.lastIndexByte s c)) ∧ w' = w := Any.strings_LastIndexByte Tryz.lays149 s c hs w
def Tryz.laysM176_ren : Go.Shelf.Ren := ⟨fun | 176 => 97 | 249 => 114 | 288 => 128 | 283 => 139 | 284 => 140 | 285 => 141 | 286 => 142 | 129 => 150 | 317 => 149 | 318 => 151 | 319 => 152 | 320 => 153 | 337 => 159 | 338 => 160 | n => n, fun | 37 => 24 | 2 => 2 | 3 => 3 | 53 => 169 | 4 => 4 | 9 => 9 | 171 => 187 | 0 => 0 | 173 => 190 | 212 => 196 | 51 => 182 | 5 => 5 | 20 => 20 | 213 => 197 | 46 => 145 | 232 => 205 | 233 => 206 | n => n, fun | 17 => 2 | 18 => 3 | 19 => 4 | n => n⟩
theorem Tryz.laysM176 : Go.Proofs.LaysM.n176 Tryz.prog Tryz.laysM176_ren := {
  mixed := by kernel_rfl
  f129 := Tryz.func150.trans (congrArg some (by kernel_rfl))
  f176 := Tryz.func97.trans (congrArg some (by kernel_rfl))
  f249 := Tryz.func114.trans (congrArg some (by kernel_rfl))
  f283 := Tryz.func139.trans (congrArg some (by kernel_rfl))
  f284 := Tryz.func140.trans (congrArg some (by kernel_rfl))
  f285 := Tryz.func141.trans (congrArg some (by kernel_rfl))
  f286 := Tryz.func142.trans (congrArg some (by kernel_rfl))
  f288 := Tryz.func128.trans (congrArg some (by kernel_rfl))
  f317 := Tryz.func149.trans (congrArg some (by kernel_rfl))
  f318 := Tryz.func151.trans (congrArg some (by kernel_rfl))
  f319 := Tryz.func152.trans (congrArg some (by kernel_rfl))
  f320 := Tryz.func153.trans (congrArg some (by kernel_rfl))
  f337 := Tryz.func159.trans (congrArg some (by kernel_rfl))
  f338 := Tryz.func160.trans (congrArg some (by kernel_rfl))
  t0 := Tryz.underlying0
  a0 := Tryz.isAgg0
  z0 := Tryz.sizeOf0
  v0 := Tryz.zeroValue0
  t2 := Tryz.underlying2
  a2 := Tryz.isAgg2
  z2 := Tryz.sizeOf2
  v2 := Tryz.zeroValue2
  t3 := Tryz.underlying3
  a3 := Tryz.isAgg3
  z3 := Tryz.sizeOf3
  v3 := Tryz.zeroValue3
  t4 := Tryz.underlying4
  a4 := Tryz.isAgg4
  z4 := Tryz.sizeOf4
  v4 := Tryz.zeroValue4
  t5 := Tryz.underlying5
  a5 := Tryz.isAgg5
  z5 := Tryz.sizeOf5
  v5 := Tryz.zeroValue5
  t9 := Tryz.underlying9
  a9 := Tryz.isAgg9
  z9 := Tryz.sizeOf9
  v9 := Tryz.zeroValue9
  t20 := Tryz.underlying20
  a20 := Tryz.isAgg20
  z20 := Tryz.sizeOf20
  v20 := Tryz.zeroValue20
  t37 := Tryz.underlying24
  a37 := Tryz.isAgg24
  z37 := Tryz.sizeOf24
  v37 := Tryz.zeroValue24
  t46 := Tryz.underlying145
  a46 := Tryz.isAgg145
  z46 := Tryz.sizeOf145
  v46 := Tryz.zeroValue145
  t51 := Tryz.underlying182
  a51 := Tryz.isAgg182
  z51 := Tryz.sizeOf182
  v51 := Tryz.zeroValue182
  t53 := Tryz.underlying169
  a53 := Tryz.isAgg169
  z53 := Tryz.sizeOf169
  v53 := Tryz.zeroValue169
  t171 := Tryz.underlying187
  a171 := Tryz.isAgg187
  z171 := Tryz.sizeOf187
  v171 := Tryz.zeroValue187
  t173 := Tryz.underlying190
  a173 := Tryz.isAgg190
  z173 := Tryz.sizeOf190
  v173 := Tryz.zeroValue190
  t212 := Tryz.underlying196
  a212 := Tryz.isAgg196
  z212 := Tryz.sizeOf196
  v212 := Tryz.zeroValue196
  t213 := Tryz.underlying197
  a213 := Tryz.isAgg197
  z213 := Tryz.sizeOf197
  t232 := Tryz.underlying205
  a232 := Tryz.isAgg205
  z232 := Tryz.sizeOf205
  v232 := Tryz.zeroValue205
  t233 := Tryz.underlying206
  a233 := Tryz.isAgg206
  z233 := Tryz.sizeOf206
  v233 := Tryz.zeroValue206
  g17 := by kernel_rfl
  g18 := by kernel_rfl
  g19 := by kernel_rfl
  i0 := by kernel_rfl
  i2 := by kernel_rfl
  i3 := by kernel_rfl
  i4 := by kernel_rfl
  i5 := by kernel_rfl
  i9 := by kernel_rfl
  i20 := by kernel_rfl
  i37 := by kernel_rfl
  i46 := by kernel_rfl
  i51 := by kernel_rfl
  i53 := by kernel_rfl
  i171 := by kernel_rfl
  i173 := by kernel_rfl
  i212 := by kernel_rfl
  i232 := by kernel_rfl
  i233 := by kernel_rfl
  m17 := by kernel_rfl
  m18 := by kernel_rfl
  m19 := by kernel_rfl }
open Go.RowKit Go.Sort Go.Lib in
theorem Tryz.strconv_AppendInt_10 (B n : Nat) (i : Int) (h0 : -9223372036854775808 ≤ i) (h1 : i ≤ 9223372036854775807) (sv : Value) (xs : List Value) (w : World) (hown : w.ownsRow B 5 1 sv n xs) (hBw : B ≤ w.heap.size) (hlim : n + 21 ≤ 140737488355328) (htab : Lib.TabBelow Tryz.prog B w "internal/strconv.uint64pow10" .u64 Lib.pow10Tab) :
    Calls Tryz.prog 97 #[sv, .int .i64 i, .int .i64 10] w fun e w' => ∃ v', e = .returned v' ∧ w'.ownsRow B 5 1 v' (n + (Lib.itoa i).length) (xs ++ Lib.byteCells (Lib.itoa i)) ∧ Below B w w' ∧ Lib.OthersKept 5 none w w' := Any.strconv_AppendInt_10 Tryz.laysM176 B n i h0 h1 sv xs w hown hBw hlim htab
def Tryz.lays146_ren : Go.Shelf.Ren := ⟨fun | 146 => 119 | 221 => 133 | 268 => 144 | 138 => 145 | 143 => 146 | 195 => 154 | 197 => 155 | 218 => 156 | 219 => 111 | 260 => 161 | 217 => 94 | 225 => 121 | 224 => 122 | 267 => 123 | 266 => 112 | 314 => 137 | n => n, fun | 9 => 9 | 31 => 151 | 3 => 3 | 4 => 4 | 0 => 0 | 105 => 199 | 21 => 21 | 5 => 5 | 46 => 145 | 119 => 207 | 139 => 210 | 138 => 209 | 146 => 183 | 51 => 182 | n => n, fun | 1 => 1 | 3 => 5 | 4 => 6 | n => n⟩
theorem Tryz.lays146 : Go.Proofs.Lays.n146 Tryz.prog Tryz.lays146_ren := {
  mixed := by kernel_rfl
  f138 := Tryz.func145.trans (congrArg some (by kernel_rfl))
  f143 := Tryz.func146.trans (congrArg some (by kernel_rfl))
  f146 := Tryz.func119.trans (congrArg some (by kernel_rfl))
  f195 := Tryz.func154.trans (congrArg some (by kernel_rfl))
  f197 := Tryz.func155.trans (congrArg some (by kernel_rfl))
  f217 := Tryz.func94.trans (congrArg some (by kernel_rfl))
  f218 := Tryz.func156.trans (congrArg some (by kernel_rfl))
  f219 := Tryz.func111.trans (congrArg some (by kernel_rfl))
  f221 := Tryz.func133.trans (congrArg some (by kernel_rfl))
  f224 := Tryz.func122.trans (congrArg some (by kernel_rfl))
  f225 := Tryz.func121.trans (congrArg some (by kernel_rfl))
  f260 := Tryz.func161.trans (congrArg some (by kernel_rfl))
  f266 := Tryz.func112.trans (congrArg some (by kernel_rfl))
  f267 := Tryz.func123.trans (congrArg some (by kernel_rfl))
  f268 := Tryz.func144.trans (congrArg some (by kernel_rfl))
  f314 := Tryz.func137.trans (congrArg some (by kernel_rfl))
  t0 := Tryz.underlying0
  a0 := Tryz.isAgg0
  z0 := Tryz.sizeOf0
  v0 := Tryz.zeroValue0
  t3 := Tryz.underlying3
  a3 := Tryz.isAgg3
  z3 := Tryz.sizeOf3
  v3 := Tryz.zeroValue3
  t4 := Tryz.underlying4
  a4 := Tryz.isAgg4
  z4 := Tryz.sizeOf4
  v4 := Tryz.zeroValue4
  t5 := Tryz.underlying5
  a5 := Tryz.isAgg5
  z5 := Tryz.sizeOf5
  v5 := Tryz.zeroValue5
  t9 := Tryz.underlying9
  a9 := Tryz.isAgg9
  z9 := Tryz.sizeOf9
  v9 := Tryz.zeroValue9
  t21 := Tryz.underlying21
  a21 := Tryz.isAgg21
  z21 := Tryz.sizeOf21
  v21 := Tryz.zeroValue21
  t31 := Tryz.underlying151
  a31 := Tryz.isAgg151
  z31 := Tryz.sizeOf151
  v31 := Tryz.zeroValue151
  t46 := Tryz.underlying145
  a46 := Tryz.isAgg145
  z46 := Tryz.sizeOf145
  v46 := Tryz.zeroValue145
  t51 := Tryz.underlying182
  a51 := Tryz.isAgg182
  z51 := Tryz.sizeOf182
  v51 := Tryz.zeroValue182
  t105 := Tryz.underlying199
  a105 := Tryz.isAgg199
  z105 := Tryz.sizeOf199
  v105 := Tryz.zeroValue199
  t119 := Tryz.underlying207
  a119 := Tryz.isAgg207
  z119 := Tryz.sizeOf207
  t138 := Tryz.underlying209
  a138 := Tryz.isAgg209
  z138 := Tryz.sizeOf209
  v138 := Tryz.zeroValue209
  t139 := Tryz.underlying210
  a139 := Tryz.isAgg210
  z139 := Tryz.sizeOf210
  v139 := Tryz.zeroValue210
  t146 := Tryz.underlying183
  a146 := Tryz.isAgg183
  z146 := Tryz.sizeOf183
  v146 := Tryz.zeroValue183
  g1 := by kernel_rfl
  g3 := by kernel_rfl
  g4 := by kernel_rfl }
open Go.RowKit Go.Lib in
theorem Tryz.strings_Split (s sep : ByteArray) (m : Int) (w : World) (hs : s.size < 4294967281) (hm : w.cell? ⟨1, 0, none⟩ = some (.int .i64 m)) (h1 : 1 ≤ sep.size) :
    Calls Tryz.prog 119 #[.string s, .string sep] w fun e w' =>
      e = .returned (.slice (some ⟨w.heap.size, 0, none⟩) (Lib.countB s sep + 1) (Lib.countB s sep + 1)) ∧ w' = w.alloc (.cells ((Lib.splitB sep 0 (Lib.countB s sep) s).map Value.string).toArray 9) := Any.strings_Split Tryz.lays146 (by kernel_rfl) s sep m w hs hm h1
def Tryz.lays152_ren : Go.Shelf.Ren := ⟨fun | 152 => 124 | 137 => 75 | 119 => 138 | 224 => 122 | 225 => 121 | 217 => 94 | 266 => 112 | n => n, fun | 9 => 9 | 21 => 21 | 3 => 3 | 4 => 4 | 5 => 5 | 0 => 0 | 46 => 145 | n => n, fun | n => n⟩
theorem Tryz.lays152 : Go.Proofs.Lays.n152 Tryz.prog Tryz.lays152_ren := {
  mixed := by kernel_rfl
  f119 := Tryz.func138.trans (congrArg some (by kernel_rfl))
  f137 := Tryz.func75.trans (congrArg some (by kernel_rfl))
  f152 := Tryz.func124.trans (congrArg some (by kernel_rfl))
  f217 := Tryz.func94.trans (congrArg some (by kernel_rfl))
  f224 := Tryz.func122.trans (congrArg some (by kernel_rfl))
  f225 := Tryz.func121.trans (congrArg some (by kernel_rfl))
  f266 := Tryz.func112.trans (congrArg some (by kernel_rfl))
  t0 := Tryz.underlying0
  a0 := Tryz.isAgg0
  z0 := Tryz.sizeOf0
  v0 := Tryz.zeroValue0
  t3 := Tryz.underlying3
  a3 := Tryz.isAgg3
  z3 := Tryz.sizeOf3
  v3 := Tryz.zeroValue3
  t4 := Tryz.underlying4
  a4 := Tryz.isAgg4
  z4 := Tryz.sizeOf4
  v4 := Tryz.zeroValue4
  t5 := Tryz.underlying5
  a5 := Tryz.isAgg5
  z5 := Tryz.sizeOf5
  v5 := Tryz.zeroValue5
  t9 := Tryz.underlying9
  a9 := Tryz.isAgg9
  z9 := Tryz.sizeOf9
  v9 := Tryz.zeroValue9
  t21 := Tryz.underlying21
  a21 := Tryz.isAgg21
  z21 := Tryz.sizeOf21
  v21 := Tryz.zeroValue21
  t46 := Tryz.underlying145
  a46 := Tryz.isAgg145
  z46 := Tryz.sizeOf145
  v46 := Tryz.zeroValue145 }
open Go.RowKit Go.Lib in
theorem Tryz.strings_IndexRune_ascii (s : ByteArray) (r : Int) (w : World) (h0 : 0 ≤ r) (h1 : r < 128) :
    Calls Tryz.prog 124 #[.string s, .int .i32 r] w fun e w' => e = .returned (.int .i64 (Lib.indexByte s.data.toList r.toNat.toUInt8)) ∧ w' = w := Any.strings_IndexRune_ascii Tryz.lays152 s r w h0 h1
def Tryz.lays226_ren : Go.Shelf.Ren := ⟨fun | 226 => 125 | n => n, fun | 3 => 3 | 4 => 4 | n => n, fun | n => n⟩
theorem Tryz.lays226 : Go.Proofs.Lays.n226 Tryz.prog Tryz.lays226_ren := {
  mixed := by kernel_rfl
  f226 := Tryz.func125.trans (congrArg some (by kernel_rfl))
  t3 := Tryz.underlying3
  a3 := Tryz.isAgg3
  z3 := Tryz.sizeOf3
  v3 := Tryz.zeroValue3
  t4 := Tryz.underlying4
  a4 := Tryz.isAgg4
  z4 := Tryz.sizeOf4
  v4 := Tryz.zeroValue4 }
open Go.RowKit Go.Lib in
theorem Tryz.strings_shouldUseASCIISet (n : Int) (w : World) :
    Calls Tryz.prog 125 #[.int .i64 n] w fun e w' => e = .returned (.bool (decide (8 < n))) ∧ w' = w := Any.strings_shouldUseASCIISet Tryz.lays226 n w
def Tryz.lays153_ren : Go.Shelf.Ren := ⟨fun | 153 => 113 | 152 => 124 | 226 => 125 | 227 => 126 | 228 => 127 | 137 => 75 | 119 => 138 | 224 => 122 | 225 => 121 | 217 => 94 | 266 => 112 | n => n, fun | 9 => 9 | 3 => 3 | 4 => 4 | 5 => 5 | 21 => 21 | 117 => 166 | 116 => 165 | 0 => 0 | 46 => 145 | 124 => 186 | n => n, fun | n => n⟩
theorem Tryz.lays153 : Go.Proofs.Lays.n153 Tryz.prog Tryz.lays153_ren := {
  mixed := by kernel_rfl
  f119 := Tryz.func138.trans (congrArg some (by kernel_rfl))
  f137 := Tryz.func75.trans (congrArg some (by kernel_rfl))
  f152 := Tryz.func124.trans (congrArg some (by kernel_rfl))
  f153 := Tryz.func113.trans (congrArg some (by kernel_rfl))
  f217 := Tryz.func94.trans (congrArg some (by kernel_rfl))
  f224 := Tryz.func122.trans (congrArg some (by kernel_rfl))
  f225 := Tryz.func121.trans (congrArg some (by kernel_rfl))
  f226 := Tryz.func125.trans (congrArg some (by kernel_rfl))
  f227 := Tryz.func126.trans (congrArg some (by kernel_rfl))
  f228 := Tryz.func127.trans (congrArg some (by kernel_rfl))
  f266 := Tryz.func112.trans (congrArg some (by kernel_rfl))
  t0 := Tryz.underlying0
  a0 := Tryz.isAgg0
  z0 := Tryz.sizeOf0
  v0 := Tryz.zeroValue0
  t3 := Tryz.underlying3
  a3 := Tryz.isAgg3
  z3 := Tryz.sizeOf3
  v3 := Tryz.zeroValue3
  t4 := Tryz.underlying4
  a4 := Tryz.isAgg4
  z4 := Tryz.sizeOf4
  v4 := Tryz.zeroValue4
  t5 := Tryz.underlying5
  a5 := Tryz.isAgg5
  z5 := Tryz.sizeOf5
  v5 := Tryz.zeroValue5
  t9 := Tryz.underlying9
  a9 := Tryz.isAgg9
  z9 := Tryz.sizeOf9
  v9 := Tryz.zeroValue9
  t21 := Tryz.underlying21
  a21 := Tryz.isAgg21
  z21 := Tryz.sizeOf21
  v21 := Tryz.zeroValue21
  t46 := Tryz.underlying145
  a46 := Tryz.isAgg145
  z46 := Tryz.sizeOf145
  v46 := Tryz.zeroValue145
  t116 := Tryz.underlying165
  a116 := Tryz.isAgg165
  z116 := Tryz.sizeOf165
  t117 := Tryz.underlying166
  a117 := Tryz.isAgg166
  z117 := Tryz.sizeOf166
  v117 := Tryz.zeroValue166
  t124 := Tryz.underlying186
  a124 := Tryz.isAgg186
  z124 := Tryz.sizeOf186
  v124 := Tryz.zeroValue186 }
open Go.RowKit Go.Lib in
theorem Tryz.strings_IndexAny_long (hv116 : ∀ w, (zeroValue 165).run Tryz.prog w = .ok (.agg (Array.replicate 256 (.bool false))) w) (s chars : ByteArray) (w : World) (h2 : 2 ≤ chars.size) (h8 : 8 < s.size) (hs : s.size < 4294967281) (hcs : chars.size < 4294967281) (hascii : ∀ (j : Nat) b, chars.data.toList[j]? = some b → b.toNat < 128) :
    Calls Tryz.prog 113 #[.string s, .string chars] w fun e w' => e = .returned (.int .i64 (Lib.indexAny s.data.toList chars.data.toList)) ∧ w' = ((w.alloc (.cells (Lib.setCells chars.data.toList) 165)).alloc (.cells (Lib.setCells chars.data.toList) 165)) := Any.strings_IndexAny_long Tryz.lays153 hv116 (by kernel_rfl) s chars w h2 h8 hs hcs hascii
end Go.Proofs
end
section
namespace Go.Proofs.YtopehfjohifpnaaGreatDoor.Turn
open Go.RowKit Go.Proofs.YtopehfjohifpnaaGreatDoorW.PrintWords
structure Turned (S : Nat → Prop) (w w' : World) : Prop where
  os : w'.os = w.os
  tape : w'.tape = w.tape
  output : w'.output = w.output
  size : w.heap.size ≤ w'.heap.size
  block : ∀ i, i < w.heap.size → ¬ S i → w'.heap[i]? = w.heap[i]?
section
variable {S S2 : Nat → Prop} {w W W2 : World}
theorem Turned.refl (S : Nat → Prop) (w : World) : Turned S w w := ⟨rfl, rfl, rfl, Nat.le_refl _, fun _ _ _ => rfl⟩
theorem Turned.of_below (h : Below w.heap.size w W) (S : Nat → Prop) : Turned S w W := ⟨h.os, h.tape, h.output, h.size, fun i hi _ => h.block i hi⟩
theorem Turned.mono (h : Turned S w W) (hs : ∀ k, S k → S2 k) : Turned S2 w W := ⟨h.os, h.tape, h.output, h.size, fun i hi hn => h.block i hi (fun hk => hn (hs i hk))⟩
theorem Turned.then_ (h : Turned S w W) (k : Turned S2 W W2) (hs : ∀ k, S2 k → S k ∨ w.heap.size ≤ k) : Turned S w W2 :=
  ⟨k.os.trans h.os, k.tape.trans h.tape, k.output.trans h.output, Nat.le_trans h.size k.size, fun i hi hn => (k.block i (Nat.lt_of_lt_of_le hi h.size) (fun h2 => (hs i h2).elim hn (fun h3 => by omega))).trans (h.block i hi hn)⟩
theorem Turned.below (h : Turned S w W) (hb : Below W.heap.size W W2) : Turned S w W2 := h.then_ (Turned.of_below hb (fun _ => False)) (fun _ hk => hk.elim)
theorem Turned.alloc (h : Turned S w W) (o : Obj) : Turned S w (W.alloc o) := h.below (below_alloc (Below.refl _ _) o)
theorem Turned.drewN (h : Turned S w W) (n : Nat) : Turned S w (W.drewN n) := ⟨h.os, h.tape, h.output, h.size, h.block⟩
theorem Turned.drew (h : Turned S w W) : Turned S w W.drew := ⟨h.os, h.tape, h.output, h.size, h.block⟩
theorem Turned.setCell (h : Turned S w W) {p : Addr} (hp : S p.block ∨ w.heap.size ≤ p.block) (u : Value) : Turned S w (W.setCell p u) :=
  h.then_ (S2 := fun k => k = p.block) ⟨rfl, rfl, rfl, by simp [World.setCell], fun i _ hn => Below.heap_setCell W p u i hn⟩ (fun k hk => by rw [hk]; exact hp)
theorem Turned.grown (h : Turned S w W) {row : Option Nat} (hg : W.grownBy W2 row) (hr : ∀ k, row = some k → S k ∨ w.heap.size ≤ k) : Turned S w W2 :=
  h.then_ (S2 := fun k => row = some k) ⟨hg.os, hg.tape, hg.output, hg.size, fun i hi hn => hg.block i hi (fun he => hn he.symm)⟩ hr
theorem Turned.setRow (h : Turned S w W) {g : Nat} (hp : S g ∨ w.heap.size ≤ g) (cs : Array Value) : Turned S w (W.setRow g cs) :=
  h.then_ (S2 := fun k => k = g) ⟨rfl, rfl, rfl, by simp [World.setRow], fun i _ hn => setRow_other W g i cs (by omega)⟩ (fun k hk => by rw [hk]; exact hp)
theorem Turned.toBelow {B : Nat} (h : Turned S w W) (hB : B ≤ w.heap.size) (hS : ∀ k, S k → B ≤ k) : Below B w W :=
  ⟨h.os, h.tape, h.output, h.size, fun i hi => h.block i (by omega) (fun hk => by have := hS i hk; omega)⟩
theorem Turned.blk (h : Turned S w W) {g : Nat} {o : Obj} (hb : w.heap[g]? = some o) (hn : ¬ S g) : W.heap[g]? = some o := (h.block g (blk_lt hb) hn).trans hb
theorem Turned.cell (h : Turned S w W) {a : Addr} {v : Value} (hc : w.cell? a = some v) (hn : ¬ S a.block) : W.cell? a = some v :=
  (World.cell?_of_block (h.block a.block (World.block_lt_of_cell? w a hc) hn)).trans hc
end
def Blk (w : World) (b : Nat) (cs : Array Value) (t : TypeId) : Prop := w.heap[b]? = some (.cells cs t (0, 0))
theorem Blk.cell {w : World} {b : Nat} {cs : Array Value} {t : TypeId} (h : Blk w b cs t) (j : Nat) : w.cell? ⟨b, j, none⟩ = cs[j]? := by
  unfold Blk at h
  simp [World.cell?, h]
theorem Blk.free {w : World} {b : Nat} {cs : Array Value} {t : TypeId} (h : Blk w b cs t) (j : Nat) : w.frozen? ⟨b, j, none⟩ = false := by
  unfold Blk at h
  simp [World.frozen?, h]
theorem Blk.lt {w : World} {b : Nat} {cs : Array Value} {t : TypeId} (h : Blk w b cs t) : b < w.heap.size := blk_lt h
theorem Blk.set {w : World} {b : Nat} {cs : Array Value} {t : TypeId} (h : Blk w b cs t) (j : Nat) (u : Value) : Blk (w.setCell ⟨b, j, none⟩ u) b (cs.setIfInBounds j u) t := by
  have hlt := h.lt
  unfold Blk at h ⊢
  simp [World.setCell, Array.getElem?_modify, h]
theorem Blk.drewN {w : World} {b : Nat} {cs : Array Value} {t : TypeId} (h : Blk w b cs t) (n : Nat) : Blk (w.drewN n) b cs t := h
theorem Blk.alloc {w : World} {b : Nat} {cs : Array Value} {t : TypeId} (h : Blk w b cs t) (o : Obj) : Blk (w.alloc o) b cs t := ((below_alloc (Below.refl _ w) o).block b h.lt).trans h
theorem Blk.new (w : World) (cs : Array Value) (t : TypeId) : Blk (w.alloc (.cells cs t)) w.heap.size cs t := heap_alloc_new w _
theorem Blk.far {w : World} {b : Nat} {cs : Array Value} {t : TypeId} (h : Blk w b cs t) {p : Addr} (hne : b ≠ p.block) (u : Value) : Blk (w.setCell p u) b cs t := (Below.heap_setCell w p u b hne).trans h
end Go.Proofs.YtopehfjohifpnaaGreatDoor.Turn
end
section
set_option linter.unusedSimpArgs false
set_option linter.unusedVariables false
namespace Go.Proofs.YtopehfjohifpnaaGreatDoor.Mine
open Go.RowKit Go.Maps Go.Proofs.YtopehfjohifpnaaGreatDoorW.PrintWords Go.Proofs.YtopehfjohifpnaaGreatDoorW.PrintLast Go.Proofs.YtopehfjohifpnaaGreatDoorW.PrintMore Go.Proofs.YtopehfjohifpnaaGreatDoor.Turn Go.Proofs.YtopehfjohifpnaaGreatDoor.Doc
theorem wrap_id {x : Int} (h0 : -9223372036854775808 ≤ x) (h1 : x ≤ 9223372036854775807) : wrap64 x = x := by unfold wrap64; omega
def pcG (s : ByteArray) : Nat → Nat → Nat → List S137
  | 0, f, i => [⟨f, s.extract f s.size⟩]
  | m + 1, f, i => if bt s i = 47 then ⟨f, s.extract f i⟩ :: pcG s m (i + 1) (i + 1) else pcG s m f (i + 1)
def pcs (s : ByteArray) : List S137 := pcG s s.size 0 0
theorem pcG_len (s : ByteArray) : ∀ m f i, (pcG s m f i).length ≤ m + 1
  | 0, f, i => by simp [pcG]
  | m + 1, f, i => by
    unfold pcG
    split
    · have := pcG_len s m (i + 1) (i + 1); simp; omega
    · have := pcG_len s m f (i + 1); omega
theorem pieces_l0 (s : ByteArray) (hs : s.size ≤ 140737488351232) : ∀ (m K i f : Nat) (out : List S137), m + 1 ≤ K → i + m = s.size → f ≤ i → out.length ≤ i → s.size < 5864062014805 → tabularyref08_Pieces.l0 K s out f i = some (out ++ pcG s m f i)
  | 0, K, i, f, out, hK, hi, hf, ho, hz => by
    obtain ⟨K, rfl⟩ : ∃ K', K = K' + 1 := ⟨K - 1, by omega⟩
    rw [tabularyref08_Pieces.l0.eq_2, if_neg (by omega), if_pos (by omega), if_pos (by omega), if_pos (by omega)]
    rfl
  | m + 1, K, i, f, out, hK, hi, hf, ho, hz => by
    obtain ⟨K, rfl⟩ : ∃ K', K = K' + 1 := ⟨K - 1, by omega⟩
    rw [tabularyref08_Pieces.l0.eq_2, if_pos (by omega), if_pos (by omega)]
    have hw : wrap64 ((i : Int) + 1) = ((i + 1 : Nat) : Int) := by rw [wrap_id (by omega) (by omega)]; rfl
    unfold pcG
    by_cases h : bt s i = 47
    · rw [if_pos h, if_pos (by omega), if_pos (by omega), if_pos (by omega), if_pos (by omega), hw, if_pos h]
      have ih := pieces_l0 s hs m K (i + 1) (i + 1) (out ++ [⟨(f : Int), s.extract f i⟩]) (by omega) (by omega) (Nat.le_refl _) (by simp; omega) hz
      rw [Int.toNat_natCast, Int.toNat_natCast, ih]
      simp
    · rw [if_neg h, hw, if_neg h]
      exact pieces_l0 s hs m K (i + 1) f out (by omega) (by omega) (by omega) (by omega) hz
theorem pieces_f (s : ByteArray) (hs : s.size ≤ 1000) (K : Nat) (hK : s.size + 1 ≤ K) : tabularyref08_Pieces.f K s = some (pcs s) := by
  have := pieces_l0 s (by omega) s.size K 0 0 [] hK (by omega) (Nat.le_refl _) (Nat.le_refl _) (by omega)
  exact this
theorem bt_get (k : ByteArray) (i : Nat) (hi : i < k.size) : ∃ x, k.data.toList[i]? = some x ∧ bt k i = x.toNat := by
  refine ⟨k[i], Lib.data_getElem? k i hi, ?_⟩
  unfold bt
  rw [dif_pos (by simpa using hi)]
  rfl
theorem idx_cons (x : UInt8) (l : List UInt8) : Lib.indexByte (x :: l) 0 = if (x == 0) = true then 0 else if (Lib.indexByte l 0 == -1) = true then -1 else Lib.indexByte l 0 + 1 := rfl
theorem nul_l0 (s : ByteArray) (hs : s.size ≤ 140737488351232) : ∀ (m K i : Nat), m + 1 ≤ K → i + m = s.size → tabularyref08_Nul.l0 K s i = some (if Lib.indexByte (s.data.toList.drop i) 0 = -1 then -1 else Lib.indexByte (s.data.toList.drop i) 0 + i)
  | 0, K, i, hK, hi => by
    obtain ⟨K, rfl⟩ : ∃ K', K = K' + 1 := ⟨K - 1, by omega⟩
    rw [tabularyref08_Nul.l0.eq_2, if_neg (by omega), List.drop_eq_nil_of_le (by rw [← Lib.size_eq]; omega)]
    rfl
  | m + 1, K, i, hK, hi => by
    obtain ⟨K, rfl⟩ : ∃ K', K = K' + 1 := ⟨K - 1, by omega⟩
    have hlt : i < s.data.toList.length := by rw [← Lib.size_eq]; omega
    obtain ⟨x, hx, hb⟩ := bt_get s i (by omega)
    have hxe : s.data.toList[i] = x := by rw [List.getElem?_eq_getElem hlt] at hx; exact Option.some.inj hx
    have hge := Lib.indexByte_ge (s.data.toList.drop (i + 1)) 0
    have ih := fun h1 h2 => nul_l0 s hs m (K) (i + 1) h1 h2
    rw [tabularyref08_Nul.l0.eq_2, if_pos (by omega), if_pos (by omega), hb, List.drop_eq_getElem_cons hlt, hxe]
    by_cases h : x = 0
    · subst h
      have e : Lib.indexByte (0 :: s.data.toList.drop (i + 1)) 0 = 0 := by rw [idx_cons]; rfl
      rw [if_pos (by rfl), e, if_neg (by decide), Int.zero_add]
    · have h1 : (x == 0) = false := beq_eq_false_iff_ne.2 h
      have h2 : ¬ ((x.toNat : Int) = 0) := fun e => by
        have h0 : x.toNat = 0 := by omega
        exact h (UInt8.toNat_inj.1 (h0.trans rfl))
      have e : Lib.indexByte (x :: s.data.toList.drop (i + 1)) 0 = if (Lib.indexByte (s.data.toList.drop (i + 1)) 0 == -1) = true then -1 else Lib.indexByte (s.data.toList.drop (i + 1)) 0 + 1 := by rw [idx_cons, h1]; rfl
      rw [if_neg h2, wrap_id (by omega) (by omega), show (i : Int) + 1 = ((i + 1 : Nat) : Int) by omega, ih (by omega) (by omega), e]
      generalize Lib.indexByte (s.data.toList.drop (i + 1)) 0 = r at *
      by_cases h3 : r = -1
      · subst h3
        rfl
      · have h4 : (r == -1) = false := beq_eq_false_iff_ne.2 h3
        have e2 : (if (r == -1) = true then (-1 : Int) else r + 1) = r + 1 := by rw [h4]; rfl
        rw [if_neg h3, e2, if_neg (by omega)]
        congr 1
        omega
theorem nul_f (s : ByteArray) (hs : s.size ≤ 140737488351232) (K : Nat) (hK : s.size + 1 ≤ K) : tabularyref08_Nul.f K s = some (Lib.indexByte s.data.toList 0) := by
  have := nul_l0 s hs s.size K 0 hK (by omega)
  unfold tabularyref08_Nul.f
  rw [show (0 : Int) = ((0 : Nat) : Int) from rfl, this]
  rw [List.drop_zero]
  split
  · rename_i h; rw [h]
  · simp
def partE (x : ByteArray) : Int × Int := if x.size = 0 then (0, 80) else if 120 < x.size then (0, 2) else if x.toList = [46] ∨ x.toList = [46, 46] then (0, 81) else if 0 ≤ Lib.indexByte x.data.toList 0 then (Lib.indexByte x.data.toList 0, 82) else (0, 0)
theorem toList_nil (x : ByteArray) : x.toList = [] ↔ x.size = 0 := by
  rw [Lib.toList_data, Lib.size_eq]
  exact List.length_eq_zero_iff.symm
theorem part_j0 (x : ByteArray) (hx : x.size ≤ 140737488351232) (K : Nat) (hK : x.size + 2 ≤ K) (b : Bool) : tabularyref08_part.j0 K x b = some (if b = true then (0, 81) else if 0 ≤ Lib.indexByte x.data.toList 0 then (Lib.indexByte x.data.toList 0, 82) else (0, 0)) := by
  obtain ⟨K, rfl⟩ : ∃ K', K = K' + 1 := ⟨K - 1, by omega⟩
  rw [tabularyref08_part.j0.eq_2]
  split
  · rfl
  · rw [nul_f x hx K (by omega), Option.bind_some]
    by_cases h : 0 ≤ Lib.indexByte x.data.toList 0
    · rw [if_pos h, if_pos h]
    · rw [if_neg h, if_neg h]
theorem part_f (x : ByteArray) (hx : x.size ≤ 140737488351232) (K : Nat) (hK : x.size + 2 ≤ K) : tabularyref08_part.f K x = some (partE x) := by
  unfold tabularyref08_part.f partE
  by_cases h0 : x.size = 0
  · rw [if_pos ((toList_nil x).2 h0), if_pos h0]
  · rw [if_neg (fun h => h0 ((toList_nil x).1 h)), if_neg h0]
    by_cases h1 : 120 < x.size
    · rw [if_pos (by omega), if_pos h1]
    · rw [if_neg (by omega), if_neg h1]
      by_cases h2 : x.toList = [46]
      · rw [if_pos h2, part_j0 x hx K hK, if_pos (Or.inl h2)]
        rfl
      · rw [if_neg h2, part_j0 x hx K hK]
        by_cases h3 : x.toList = [46, 46]
        · rw [h3, if_pos (by rfl), if_pos (Or.inr rfl)]
        · have h4 : (x.toList == [46, 46]) = false := beq_eq_false_iff_ne.2 h3
          have h5 : ¬ (x.toList = [46] ∨ x.toList = [46, 46]) := fun h => h.elim h2 h3
          rw [h4, if_neg h5]
          rfl
def chk : List S137 → Int × Int
  | [] => (0, 0)
  | p :: l => if (partE p.f1).2 = 0 then chk l else (p.f0 + (partE p.f1).1, (partE p.f1).2)
def checkF (s : ByteArray) : Int × Int := if 400 < s.size then (0, 2) else chk (pcs s)
theorem extract_size_le (s : ByteArray) (a b : Nat) : (s.extract a b).size ≤ s.size := by
  rw [ByteArray.size_extract]; omega
theorem pcG_small (s : ByteArray) : ∀ m f i, f ≤ s.size → i + m = s.size → ∀ p ∈ pcG s m f i, p.f1.size ≤ s.size ∧ 0 ≤ p.f0 ∧ p.f0 ≤ s.size
  | 0, f, i, hf, hi, p, hp => by
    simp only [pcG, List.mem_singleton] at hp
    subst hp
    exact ⟨extract_size_le _ _ _, by simp only; omega, by simp only; omega⟩
  | m + 1, f, i, hf, hi, p, hp => by
    unfold pcG at hp
    split at hp
    · rcases List.mem_cons.1 hp with rfl | hp
      · exact ⟨extract_size_le _ _ _, by simp only; omega, by simp only; omega⟩
      · exact pcG_small s m (i + 1) (i + 1) (by omega) (by omega) p hp
    · exact pcG_small s m f (i + 1) (by omega) (by omega) p hp
theorem partE_rg (x : ByteArray) (hx : x.size ≤ 400) : 0 ≤ (partE x).1 ∧ (partE x).1 ≤ 400 := by
  unfold partE
  have : Lib.indexByte x.data.toList 0 ≤ x.size := by
    rw [← Lib.index_one, Lib.size_eq]
    exact Lib.index_le _ _
  split
  · simp
  · split
    · simp
    · split
      · simp
      · split
        · simp only; omega
        · simp
theorem check_l0 (K : Nat) (l : List S137) (hl : ∀ p ∈ l, p.f1.size ≤ 400 ∧ 0 ≤ p.f0 ∧ p.f0 ≤ 400) (hn : l.length ≤ 1000) : ∀ (m F i : Nat), m + 403 ≤ F → i + m = l.length → tabularyref08_Check.l0 F l i = some (chk (l.drop i))
  | 0, F, i, hF, hi => by
    obtain ⟨F, rfl⟩ : ∃ F', F = F' + 1 := ⟨F - 1, by omega⟩
    rw [tabularyref08_Check.l0.eq_2, if_neg (by omega), List.drop_eq_nil_of_le (by omega)]
    rfl
  | m + 1, F, i, hF, hi => by
    obtain ⟨F, rfl⟩ : ∃ F', F = F' + 1 := ⟨F - 1, by omega⟩
    have hlt : i < l.length := by omega
    have hrd : rd_T137 l (i : Int) = l[i] := by unfold rd_T137; rw [Int.toNat_natCast, List.getD_eq_getElem?_getD, List.getElem?_eq_getElem hlt]; rfl
    have hp := hl l[i] (List.getElem_mem hlt)
    have hpr := partE_rg l[i].f1 hp.1
    rw [tabularyref08_Check.l0.eq_2, if_pos (by omega), if_pos (by omega), hrd, part_f _ (by omega) F (by omega), Option.bind_some, List.drop_eq_getElem_cons hlt]
    unfold chk
    split
    · rw [wrap_id (by omega) (by omega), show (i : Int) + 1 = ((i + 1 : Nat) : Int) by omega]
      exact check_l0 K l hl hn m F (i + 1) (by omega) (by omega)
    · rw [wrap_id (by omega) (by omega)]
theorem check_f (s : ByteArray) (K : Nat) (hK : 2000 ≤ K) : tabularyref08_Check.f K s = some (checkF s) := by
  unfold tabularyref08_Check.f checkF
  by_cases h : 400 < s.size
  · rw [if_pos (by omega), if_pos h]
  · rw [if_neg (by omega), if_neg h, pieces_f s (by omega) K (by omega), Option.bind_some]
    have hlen := pcG_len s s.size 0 0
    have := check_l0 K (pcs s) (fun p hp => by have := pcG_small s s.size 0 0 (Nat.zero_le _) (by omega) p hp; omega) (by unfold pcs; omega) (pcs s).length K 0 (by unfold pcs; omega) (by omega)
    rw [List.drop_zero] at this
    exact this
theorem pcG_skip (s : ByteArray) (f : Nat) : ∀ (d i p : Nat), i + d = p → p ≤ s.size → (∀ j, i ≤ j → j < p → bt s j ≠ 47) → pcG s (s.size - i) f i = pcG s (s.size - p) f p
  | 0, i, p, h, hp, hn => by
    obtain rfl : i = p := by omega
    rfl
  | d + 1, i, p, h, hp, hn => by
    rw [show s.size - i = (s.size - (i + 1)) + 1 by omega]
    show (if bt s i = 47 then _ else _) = _
    rw [if_neg (hn i (Nat.le_refl _) (by omega))]
    exact pcG_skip s f d (i + 1) p (by omega) hp (fun j h1 h2 => hn j (by omega) h2)
theorem tail_get (s : ByteArray) (a k : Nat) (ha : a ≤ s.size) : (s.extract a s.size).data.toList[k]? = s.data.toList[a + k]? := by
  rw [ByteArray.data_extract, Array.toList_extract, List.extract_eq_take_drop]
  rw [List.getElem?_take]
  have : s.data.size = s.size := rfl
  split
  · rw [List.getElem?_drop]
  · rw [List.getElem?_eq_none]
    rw [← Lib.size_eq]
    omega
theorem bt_eq (s : ByteArray) (j : Nat) (hj : j < s.size) : bt s j = 47 ↔ s.data.toList[j]? = some 47 := by
  obtain ⟨x, hx, hb⟩ := bt_get s j hj
  rw [hx, hb]
  constructor
  · intro h
    have : x.toNat = 47 := by omega
    exact congrArg some (UInt8.toNat_inj.1 this)
  · intro h
    rw [Option.some.inj h]
    rfl
theorem pcs_last (s : ByteArray) (a : Nat) (ha : a ≤ s.size) (h : Lib.indexByte (s.extract a s.size).data.toList 47 < 0) : pcG s (s.size - a) a a = [⟨a, s.extract a s.size⟩] := by
  have hn : Lib.indexByte (s.extract a s.size).data.toList 47 = -1 := by
    have := Lib.indexByte_ge (s.extract a s.size).data.toList 47; omega
  rw [pcG_skip s a (s.size - a) a s.size (by omega) (Nat.le_refl _) (fun j h1 h2 => fun e => by
    have h3 := Lib.indexByte_none hn (j - a)
    rw [tail_get s a _ ha, show a + (j - a) = j by omega] at h3
    exact h3 ((bt_eq s j h2).1 e)), Nat.sub_self]
  rfl
theorem pcs_more (s : ByteArray) (a n : Nat) (ha : a ≤ s.size) (h : Lib.indexByte (s.extract a s.size).data.toList 47 = n) : a + n < s.size ∧ pcG s (s.size - a) a a = ⟨a, s.extract a (a + n)⟩ :: pcG s (s.size - (a + n + 1)) (a + n + 1) (a + n + 1) := by
  obtain ⟨h1, h2⟩ := Lib.indexByte_some h
  rw [tail_get s a _ ha] at h1
  have hlt : a + n < s.size := by
    rcases Nat.lt_or_ge (a + n) s.size with h | h
    · exact h
    · rw [List.getElem?_eq_none (by rw [← Lib.size_eq]; omega)] at h1; cases h1
  refine ⟨hlt, ?_⟩
  rw [pcG_skip s a n a (a + n) rfl (by omega) (fun j h3 h4 => fun e => by
    have h5 := h2 (j - a) (by omega)
    rw [tail_get s a _ ha, show a + (j - a) = j by omega] at h5
    exact h5 ((bt_eq s j (by omega)).1 e)), show s.size - (a + n) = (s.size - (a + n + 1)) + 1 by omega]
  show (if bt s (a + n : Nat) = 47 then _ else _) = _
  rw [if_pos ((bt_eq s (a + n) hlt).2 h1)]
end Go.Proofs.YtopehfjohifpnaaGreatDoor.Mine
end
