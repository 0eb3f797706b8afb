/- Part of the proof: Shelf K1 K2 X1 X2 D1 D2 L1. -/
import Derived.Test.YtmjllchdhcdinaaGreatDoorX11
import Derived.Shelf.Strings.OnBuilder
import Derived.Shelf.Strconv.Atoi
import Derived.Shelf.LaysM
import Derived.Shelf.Strconv.Itoa3
import Derived.Shelf.Strconv.AppendIntPublic10
import Derived.Shelf.Strings.Split
import Derived.Shelf.Slices.Turned
import Derived.Shelf.Slices.Equal
import Derived.Shelf.Spec.TrailingZeros
set_option linter.unusedVariables false
set_option linter.unusedSimpArgs false
set_option maxRecDepth 100000
set_option maxHeartbeats 8000000
namespace Go.Proofs
open Go.Shelf
def Tryz.lays156_ren : Go.Shelf.Ren := ⟨fun | 156 => 87 | 165 => 123 | 166 => 124 | 169 => 125 | 240 => 158 | 241 => 159 | 276 => 178 | 277 => 179 | n => n,fun | 31 => 169 | 9 => 9 | 3 => 3 | 4 => 4 | 0 => 0 | 20 => 20 | 72 => 207 | 76 => 211 | 70 => 205 | 37 => 26 | 75 => 210 | 127 => 238 | 164 => 251 | 5 => 5 | 80 => 115 | n => n,fun | n => n⟩
theorem Tryz.lays156 : Go.Proofs.Lays.n156 Tryz.prog Tryz.lays156_ren := {
 mixed := by kernel_rfl
 f156 := Tryz.func87.trans (congrArg some (by kernel_rfl))
 f165 := Tryz.func123.trans (congrArg some (by kernel_rfl))
 f166 := Tryz.func124.trans (congrArg some (by kernel_rfl))
 f169 := Tryz.func125.trans (congrArg some (by kernel_rfl))
 f240 := Tryz.func158.trans (congrArg some (by kernel_rfl))
 f241 := Tryz.func159.trans (congrArg some (by kernel_rfl))
 f276 := Tryz.func178.trans (congrArg some (by kernel_rfl))
 f277 := Tryz.func179.trans (congrArg some (by kernel_rfl))
 t0 := Tryz.underlying0
 a0 := Tryz.isAgg0
 z0 := Tryz.sizeOf0
 v0 := Tryz.zeroValue0
 t3 := Tryz.underlying3
 a3 := Tryz.isAgg3
 z3 := Tryz.sizeOf3
 v3 := Tryz.zeroValue3
 t4 := Tryz.underlying4
 a4 := Tryz.isAgg4
 z4 := Tryz.sizeOf4
 v4 := Tryz.zeroValue4
 t9 := Tryz.underlying9
 a9 := Tryz.isAgg9
 z9 := Tryz.sizeOf9
 v9 := Tryz.zeroValue9
 t20 := Tryz.underlying20
 a20 := Tryz.isAgg20
 z20 := Tryz.sizeOf20
 v20 := Tryz.zeroValue20
 t31 := Tryz.underlying169
 a31 := Tryz.isAgg169
 z31 := Tryz.sizeOf169
 v31 := Tryz.zeroValue169
 t37 := Tryz.underlying26
 a37 := Tryz.isAgg26
 z37 := Tryz.sizeOf26
 v37 := Tryz.zeroValue26
 t70 := Tryz.underlying205
 a70 := Tryz.isAgg205
 z70 := Tryz.sizeOf205
 v70 := Tryz.zeroValue205
 t72 := Tryz.underlying207
 a72 := Tryz.isAgg207
 z72 := Tryz.sizeOf207
 v72 := Tryz.zeroValue207
 t75 := Tryz.underlying210
 a75 := Tryz.isAgg210
 z75 := Tryz.sizeOf210
 v75 := Tryz.zeroValue210
 t76 := Tryz.underlying211
 a76 := Tryz.isAgg211
 z76 := Tryz.sizeOf211
 v76 := Tryz.zeroValue211
 t127 := Tryz.underlying238
 a127 := Tryz.isAgg238
 z127 := Tryz.sizeOf238
 v127 := Tryz.zeroValue238
 t164 := Tryz.underlying251
 a164 := Tryz.isAgg251
 z164 := Tryz.sizeOf251
 v164 := Tryz.zeroValue251 }
theorem Tryz.Builder_Extra_156 : Builder.Extra Tryz.prog Tryz.lays156_ren := {
 sizeBuilder := by kernel_rfl
 liesBuilder := by kernel_rfl
 t5 := Tryz.underlying5
 a5 := Tryz.isAgg5
 z5 := Tryz.sizeOf5
 v5 := Tryz.zeroValue5
 infoByte := by kernel_rfl
 cellsByte := by kernel_rfl
 sizeByte := by kernel_rfl
 neB5 := by decide }
open Go.RowKit in
theorem Tryz.strings_Join (bk o c : Nat) (xs : List ByteArray) (sep : ByteArray) (w : World) (hcells : ∀ (j : Nat) x,xs[j]? = some x → w.cell? ⟨bk,o + j,none⟩ = some (.string x)) (hbk : bk < w.heap.size) (hN : xs.length ≤ 140737488355328) (hcap : xs.length ≤ c) (hlen : (Lib.join (xs.map (·.data.toList)) sep.data.toList).length ≤ 140737488355328) :
  Calls Tryz.prog 87 #[.slice (some ⟨bk,o,none⟩) xs.length c,.string sep] w fun e w' => e = .returned (.string ⟨(Lib.join (xs.map (·.data.toList)) sep.data.toList).toArray⟩) ∧ Below w.heap.size w w' := Any.strings_Join Tryz.lays156 Tryz.Builder_Extra_156 bk o c xs sep w hcells hbk hN hcap hlen
def Tryz.lays172_ren : Go.Shelf.Ren := ⟨fun | 172 => 143 | 244 => 167 | 245 => 165 | 247 => 190 | 279 => 186 | 280 => 187 | 281 => 188 | 282 => 189 | 287 => 164 | 316 => 201 | 171 => 61 | 205 => 202 | 321 => 184 | 322 => 185 | 243 => 106 | 246 => 145 | 283 => 147 | 284 => 148 | 285 => 149 | 286 => 150 | 129 => 170 | 317 => 169 | 318 => 171 | 319 => 172 | 320 => 173 | 337 => 191 | 338 => 116 | n => n,fun | 9 => 9 | 3 => 3 | 75 => 210 | 76 => 211 | 4 => 4 | 5 => 5 | 167 => 257 | 37 => 26 | 0 => 0 | 85 => 262 | 2 => 2 | 168 => 259 | 53 => 49 | 175 => 218 | 46 => 222 | 210 => 270 | 127 => 238 | 145 => 281 | 143 => 279 | 21 => 21 | 171 => 224 | 173 => 226 | 212 => 244 | 51 => 245 | 20 => 20 | 213 => 246 | 232 => 272 | 233 => 231 | 80 => 115 | n => n,fun | 15 => 3 | 16 => 4 | 17 => 1 | 18 => 5 | 19 => 0 | n => n⟩
theorem Tryz.lays172 : Go.Proofs.Lays.n172 Tryz.prog Tryz.lays172_ren := {
 mixed := by kernel_rfl
 f129 := Tryz.func170.trans (congrArg some (by kernel_rfl))
 f171 := Tryz.func61.trans (congrArg some (by kernel_rfl))
 f172 := Tryz.func143.trans (congrArg some (by kernel_rfl))
 f205 := Tryz.func202.trans (congrArg some (by kernel_rfl))
 f243 := Tryz.func106.trans (congrArg some (by kernel_rfl))
 f244 := Tryz.func167.trans (congrArg some (by kernel_rfl))
 f245 := Tryz.func165.trans (congrArg some (by kernel_rfl))
 f246 := Tryz.func145.trans (congrArg some (by kernel_rfl))
 f247 := Tryz.func190.trans (congrArg some (by kernel_rfl))
 f279 := Tryz.func186.trans (congrArg some (by kernel_rfl))
 f280 := Tryz.func187.trans (congrArg some (by kernel_rfl))
 f281 := Tryz.func188.trans (congrArg some (by kernel_rfl))
 f282 := Tryz.func189.trans (congrArg some (by kernel_rfl))
 f283 := Tryz.func147.trans (congrArg some (by kernel_rfl))
 f284 := Tryz.func148.trans (congrArg some (by kernel_rfl))
 f285 := Tryz.func149.trans (congrArg some (by kernel_rfl))
 f286 := Tryz.func150.trans (congrArg some (by kernel_rfl))
 f287 := Tryz.func164.trans (congrArg some (by kernel_rfl))
 f316 := Tryz.func201.trans (congrArg some (by kernel_rfl))
 f317 := Tryz.func169.trans (congrArg some (by kernel_rfl))
 f318 := Tryz.func171.trans (congrArg some (by kernel_rfl))
 f319 := Tryz.func172.trans (congrArg some (by kernel_rfl))
 f320 := Tryz.func173.trans (congrArg some (by kernel_rfl))
 f321 := Tryz.func184.trans (congrArg some (by kernel_rfl))
 f322 := Tryz.func185.trans (congrArg some (by kernel_rfl))
 f337 := Tryz.func191.trans (congrArg some (by kernel_rfl))
 f338 := Tryz.func116.trans (congrArg some (by kernel_rfl))
 t0 := Tryz.underlying0
 a0 := Tryz.isAgg0
 z0 := Tryz.sizeOf0
 v0 := Tryz.zeroValue0
 t2 := Tryz.underlying2
 a2 := Tryz.isAgg2
 z2 := Tryz.sizeOf2
 v2 := Tryz.zeroValue2
 t3 := Tryz.underlying3
 a3 := Tryz.isAgg3
 z3 := Tryz.sizeOf3
 v3 := Tryz.zeroValue3
 t4 := Tryz.underlying4
 a4 := Tryz.isAgg4
 z4 := Tryz.sizeOf4
 v4 := Tryz.zeroValue4
 t5 := Tryz.underlying5
 a5 := Tryz.isAgg5
 z5 := Tryz.sizeOf5
 v5 := Tryz.zeroValue5
 t9 := Tryz.underlying9
 a9 := Tryz.isAgg9
 z9 := Tryz.sizeOf9
 v9 := Tryz.zeroValue9
 t20 := Tryz.underlying20
 a20 := Tryz.isAgg20
 z20 := Tryz.sizeOf20
 v20 := Tryz.zeroValue20
 t21 := Tryz.underlying21
 a21 := Tryz.isAgg21
 z21 := Tryz.sizeOf21
 v21 := Tryz.zeroValue21
 t37 := Tryz.underlying26
 a37 := Tryz.isAgg26
 z37 := Tryz.sizeOf26
 v37 := Tryz.zeroValue26
 t46 := Tryz.underlying222
 a46 := Tryz.isAgg222
 z46 := Tryz.sizeOf222
 v46 := Tryz.zeroValue222
 t51 := Tryz.underlying245
 a51 := Tryz.isAgg245
 z51 := Tryz.sizeOf245
 v51 := Tryz.zeroValue245
 t53 := Tryz.underlying49
 a53 := Tryz.isAgg49
 z53 := Tryz.sizeOf49
 v53 := Tryz.zeroValue49
 t75 := Tryz.underlying210
 a75 := Tryz.isAgg210
 z75 := Tryz.sizeOf210
 v75 := Tryz.zeroValue210
 t76 := Tryz.underlying211
 a76 := Tryz.isAgg211
 z76 := Tryz.sizeOf211
 v76 := Tryz.zeroValue211
 t85 := Tryz.underlying262
 a85 := Tryz.isAgg262
 z85 := Tryz.sizeOf262
 v85 := Tryz.zeroValue262
 t127 := Tryz.underlying238
 a127 := Tryz.isAgg238
 z127 := Tryz.sizeOf238
 v127 := Tryz.zeroValue238
 t143 := Tryz.underlying279
 a143 := Tryz.isAgg279
 z143 := Tryz.sizeOf279
 v143 := Tryz.zeroValue279
 t145 := Tryz.underlying281
 a145 := Tryz.isAgg281
 z145 := Tryz.sizeOf281
 v145 := Tryz.zeroValue281
 t167 := Tryz.underlying257
 a167 := Tryz.isAgg257
 z167 := Tryz.sizeOf257
 v167 := Tryz.zeroValue257
 t168 := Tryz.underlying259
 a168 := Tryz.isAgg259
 z168 := Tryz.sizeOf259
 v168 := Tryz.zeroValue259
 t171 := Tryz.underlying224
 a171 := Tryz.isAgg224
 z171 := Tryz.sizeOf224
 v171 := Tryz.zeroValue224
 t173 := Tryz.underlying226
 a173 := Tryz.isAgg226
 z173 := Tryz.sizeOf226
 v173 := Tryz.zeroValue226
 t175 := Tryz.underlying218
 a175 := Tryz.isAgg218
 z175 := Tryz.sizeOf218
 v175 := Tryz.zeroValue218
 t210 := Tryz.underlying270
 a210 := Tryz.isAgg270
 z210 := Tryz.sizeOf270
 v210 := Tryz.zeroValue270
 t212 := Tryz.underlying244
 a212 := Tryz.isAgg244
 z212 := Tryz.sizeOf244
 v212 := Tryz.zeroValue244
 t213 := Tryz.underlying246
 a213 := Tryz.isAgg246
 z213 := Tryz.sizeOf246
 t232 := Tryz.underlying272
 a232 := Tryz.isAgg272
 z232 := Tryz.sizeOf272
 v232 := Tryz.zeroValue272
 t233 := Tryz.underlying231
 a233 := Tryz.isAgg231
 z233 := Tryz.sizeOf231
 v233 := Tryz.zeroValue231
 g15 := by kernel_rfl
 g16 := by kernel_rfl
 g17 := by kernel_rfl
 g18 := by kernel_rfl
 g19 := by kernel_rfl }
open Go.RowKit in
theorem Tryz.strconv_Atoi (s : ByteArray) (n : Int) (hl : s.size ≤ 18) (h : Lib.atoi s.data.toList = some n) (w : World) :
  Calls Tryz.prog 143 #[.string s] w fun e w' => e = .returned (.tuple #[.int .i64 n,.nilIface]) ∧ ∃ t,w' = Lib.bytesWorld w 5 t := Any.strconv_Atoi Tryz.lays172 s n hl h w
def Tryz.lays283_ren : Go.Shelf.Ren := ⟨fun | 283 => 147 | n => n,fun | 3 => 3 | 9 => 9 | 4 => 4 | n => n,fun | n => n⟩
theorem Tryz.lays283 : Go.Proofs.Lays.n283 Tryz.prog Tryz.lays283_ren := {
 mixed := by kernel_rfl
 f283 := Tryz.func147.trans (congrArg some (by kernel_rfl))
 t3 := Tryz.underlying3
 a3 := Tryz.isAgg3
 z3 := Tryz.sizeOf3
 v3 := Tryz.zeroValue3
 t4 := Tryz.underlying4
 a4 := Tryz.isAgg4
 z4 := Tryz.sizeOf4
 v4 := Tryz.zeroValue4
 t9 := Tryz.underlying9
 a9 := Tryz.isAgg9
 z9 := Tryz.sizeOf9
 v9 := Tryz.zeroValue9 }
open Go.Lib in
theorem Tryz.internal_strconv_small (i : Nat) (h : i < 100) (w : World) :
  Calls Tryz.prog 147 #[.int .i64 i] w fun e w' => e = .returned (.string ⟨(Lib.decDigits i).toArray⟩) ∧ w' = w := Any.internal_strconv_small Tryz.lays283 i h w
def Tryz.laysM284_ren : Go.Shelf.Ren := ⟨fun | 284 => 148 | 129 => 170 | 317 => 169 | 318 => 171 | n => n,fun | 53 => 49 | 3 => 3 | 212 => 244 | 0 => 0 | 4 => 4 | 46 => 222 | 5 => 5 | 9 => 9 | n => n,fun | 17 => 1 | n => n⟩
theorem Tryz.laysM284 : Go.Proofs.LaysM.n284 Tryz.prog Tryz.laysM284_ren := {
 mixed := by kernel_rfl
 f129 := Tryz.func170.trans (congrArg some (by kernel_rfl))
 f284 := Tryz.func148.trans (congrArg some (by kernel_rfl))
 f317 := Tryz.func169.trans (congrArg some (by kernel_rfl))
 f318 := Tryz.func171.trans (congrArg some (by kernel_rfl))
 t0 := Tryz.underlying0
 a0 := Tryz.isAgg0
 z0 := Tryz.sizeOf0
 v0 := Tryz.zeroValue0
 t3 := Tryz.underlying3
 a3 := Tryz.isAgg3
 z3 := Tryz.sizeOf3
 v3 := Tryz.zeroValue3
 t4 := Tryz.underlying4
 a4 := Tryz.isAgg4
 z4 := Tryz.sizeOf4
 v4 := Tryz.zeroValue4
 t5 := Tryz.underlying5
 a5 := Tryz.isAgg5
 z5 := Tryz.sizeOf5
 v5 := Tryz.zeroValue5
 t9 := Tryz.underlying9
 a9 := Tryz.isAgg9
 z9 := Tryz.sizeOf9
 v9 := Tryz.zeroValue9
 t46 := Tryz.underlying222
 a46 := Tryz.isAgg222
 z46 := Tryz.sizeOf222
 v46 := Tryz.zeroValue222
 t53 := Tryz.underlying49
 a53 := Tryz.isAgg49
 z53 := Tryz.sizeOf49
 v53 := Tryz.zeroValue49
 t212 := Tryz.underlying244
 a212 := Tryz.isAgg244
 z212 := Tryz.sizeOf244
 v212 := Tryz.zeroValue244
 g17 := by kernel_rfl
 i0 := by kernel_rfl
 i3 := by kernel_rfl
 i4 := by kernel_rfl
 i5 := by kernel_rfl
 i9 := by kernel_rfl
 i46 := by kernel_rfl
 i53 := by kernel_rfl
 i212 := by kernel_rfl
 m17 := by kernel_rfl }
open Go.Lib in
theorem Tryz.internal_strconv_numDigits (u : Nat) (h1 : 1 ≤ u) (h2 : u < 18446744073709551616) (w : World) (htab : Lib.TabIs Tryz.prog w "internal/strconv.uint64pow10" .u64 Lib.pow10Tab) :
  Calls Tryz.prog 148 #[.int .u64 u] w fun e w' => e = .returned (.int .i64 (Lib.nDigits u)) ∧ w' = w := Any.internal_strconv_numDigits Tryz.laysM284 u h1 h2 w htab
def Tryz.lays285_ren : Go.Shelf.Ren := ⟨fun | 285 => 149 | n => n,fun | 37 => 26 | 53 => 49 | 3 => 3 | 4 => 4 | 51 => 245 | 9 => 9 | 5 => 5 | 0 => 0 | n => n,fun | n => n⟩
theorem Tryz.lays285 : Go.Proofs.Lays.n285 Tryz.prog Tryz.lays285_ren := {
 mixed := by kernel_rfl
 f285 := Tryz.func149.trans (congrArg some (by kernel_rfl))
 t0 := Tryz.underlying0
 a0 := Tryz.isAgg0
 z0 := Tryz.sizeOf0
 v0 := Tryz.zeroValue0
 t3 := Tryz.underlying3
 a3 := Tryz.isAgg3
 z3 := Tryz.sizeOf3
 v3 := Tryz.zeroValue3
 t4 := Tryz.underlying4
 a4 := Tryz.isAgg4
 z4 := Tryz.sizeOf4
 v4 := Tryz.zeroValue4
 t5 := Tryz.underlying5
 a5 := Tryz.isAgg5
 z5 := Tryz.sizeOf5
 v5 := Tryz.zeroValue5
 t9 := Tryz.underlying9
 a9 := Tryz.isAgg9
 z9 := Tryz.sizeOf9
 v9 := Tryz.zeroValue9
 t37 := Tryz.underlying26
 a37 := Tryz.isAgg26
 z37 := Tryz.sizeOf26
 v37 := Tryz.zeroValue26
 t51 := Tryz.underlying245
 a51 := Tryz.isAgg245
 z51 := Tryz.sizeOf245
 v51 := Tryz.zeroValue245
 t53 := Tryz.underlying49
 a53 := Tryz.isAgg49
 z53 := Tryz.sizeOf49
 v53 := Tryz.zeroValue49 }
open Go.RowKit Go.Sort Go.Lib in
theorem Tryz.internal_strconv_formatBase10 (blk off cap : Nat) (u : Nat) (d : Array UInt8) (w : World) (hH : Holds (fun (b : UInt8) => Value.int .u8 (b.toNat : Int)) w blk off d) (hu : u < 10 ^ d.size) (hu64 : u < 18446744073709551616) (hsz : d.size < 4611686018427387904) :
  Calls Tryz.prog 149 #[.slice (some ⟨blk,off,none⟩) d.size cap,.int .u64 u] w fun e w' =>
   e = .returned (.tuple #[]) ∧ ∃ (n v' : Nat) (dk : Array UInt8),w' = (putRow (fun (b : UInt8) => Value.int .u8 (b.toNat : Int)) w blk off dk).drewN n ∧ FmtInv d.size u 0 v' dk := Any.internal_strconv_formatBase10 Tryz.lays285 blk off cap u d w hH hu hu64 hsz
def Tryz.laysM171_ren : Go.Shelf.Ren := ⟨fun | 171 => 61 | 243 => 106 | 246 => 145 | 283 => 147 | 284 => 148 | 285 => 149 | 286 => 150 | 129 => 170 | 317 => 169 | 318 => 171 | 319 => 172 | 320 => 173 | 337 => 191 | 338 => 116 | n => n,fun | 3 => 3 | 9 => 9 | 2 => 2 | 4 => 4 | 171 => 224 | 0 => 0 | 53 => 49 | 37 => 26 | 5 => 5 | 173 => 226 | 212 => 244 | 51 => 245 | 20 => 20 | 213 => 246 | 46 => 222 | 232 => 272 | 233 => 231 | n => n,fun | 17 => 1 | 18 => 5 | 19 => 0 | n => n⟩
theorem Tryz.laysM171 : Go.Proofs.LaysM.n171 Tryz.prog Tryz.laysM171_ren := {
 mixed := by kernel_rfl
 f129 := Tryz.func170.trans (congrArg some (by kernel_rfl))
 f171 := Tryz.func61.trans (congrArg some (by kernel_rfl))
 f243 := Tryz.func106.trans (congrArg some (by kernel_rfl))
 f246 := Tryz.func145.trans (congrArg some (by kernel_rfl))
 f283 := Tryz.func147.trans (congrArg some (by kernel_rfl))
 f284 := Tryz.func148.trans (congrArg some (by kernel_rfl))
 f285 := Tryz.func149.trans (congrArg some (by kernel_rfl))
 f286 := Tryz.func150.trans (congrArg some (by kernel_rfl))
 f317 := Tryz.func169.trans (congrArg some (by kernel_rfl))
 f318 := Tryz.func171.trans (congrArg some (by kernel_rfl))
 f319 := Tryz.func172.trans (congrArg some (by kernel_rfl))
 f320 := Tryz.func173.trans (congrArg some (by kernel_rfl))
 f337 := Tryz.func191.trans (congrArg some (by kernel_rfl))
 f338 := Tryz.func116.trans (congrArg some (by kernel_rfl))
 t0 := Tryz.underlying0
 a0 := Tryz.isAgg0
 z0 := Tryz.sizeOf0
 v0 := Tryz.zeroValue0
 t2 := Tryz.underlying2
 a2 := Tryz.isAgg2
 z2 := Tryz.sizeOf2
 v2 := Tryz.zeroValue2
 t3 := Tryz.underlying3
 a3 := Tryz.isAgg3
 z3 := Tryz.sizeOf3
 v3 := Tryz.zeroValue3
 t4 := Tryz.underlying4
 a4 := Tryz.isAgg4
 z4 := Tryz.sizeOf4
 v4 := Tryz.zeroValue4
 t5 := Tryz.underlying5
 a5 := Tryz.isAgg5
 z5 := Tryz.sizeOf5
 v5 := Tryz.zeroValue5
 t9 := Tryz.underlying9
 a9 := Tryz.isAgg9
 z9 := Tryz.sizeOf9
 v9 := Tryz.zeroValue9
 t20 := Tryz.underlying20
 a20 := Tryz.isAgg20
 z20 := Tryz.sizeOf20
 v20 := Tryz.zeroValue20
 t37 := Tryz.underlying26
 a37 := Tryz.isAgg26
 z37 := Tryz.sizeOf26
 v37 := Tryz.zeroValue26
 t46 := Tryz.underlying222
 a46 := Tryz.isAgg222
 z46 := Tryz.sizeOf222
 v46 := Tryz.zeroValue222
 t51 := Tryz.underlying245
 a51 := Tryz.isAgg245
 z51 := Tryz.sizeOf245
 v51 := Tryz.zeroValue245
 t53 := Tryz.underlying49
 a53 := Tryz.isAgg49
 z53 := Tryz.sizeOf49
 v53 := Tryz.zeroValue49
 t171 := Tryz.underlying224
 a171 := Tryz.isAgg224
 z171 := Tryz.sizeOf224
 v171 := Tryz.zeroValue224
 t173 := Tryz.underlying226
 a173 := Tryz.isAgg226
 z173 := Tryz.sizeOf226
 v173 := Tryz.zeroValue226
 t212 := Tryz.underlying244
 a212 := Tryz.isAgg244
 z212 := Tryz.sizeOf244
 v212 := Tryz.zeroValue244
 t213 := Tryz.underlying246
 a213 := Tryz.isAgg246
 z213 := Tryz.sizeOf246
 t232 := Tryz.underlying272
 a232 := Tryz.isAgg272
 z232 := Tryz.sizeOf272
 v232 := Tryz.zeroValue272
 t233 := Tryz.underlying231
 a233 := Tryz.isAgg231
 z233 := Tryz.sizeOf231
 v233 := Tryz.zeroValue231
 g17 := by kernel_rfl
 g18 := by kernel_rfl
 g19 := by kernel_rfl
 i0 := by kernel_rfl
 i2 := by kernel_rfl
 i3 := by kernel_rfl
 i4 := by kernel_rfl
 i5 := by kernel_rfl
 i9 := by kernel_rfl
 i20 := by kernel_rfl
 i37 := by kernel_rfl
 i46 := by kernel_rfl
 i51 := by kernel_rfl
 i53 := by kernel_rfl
 i171 := by kernel_rfl
 i173 := by kernel_rfl
 i212 := by kernel_rfl
 i232 := by kernel_rfl
 i233 := by kernel_rfl
 m17 := by kernel_rfl
 m18 := by kernel_rfl
 m19 := by kernel_rfl }
open Go.RowKit Go.Sort Go.Lib in
theorem Tryz.strconv_Itoa (n : Int) (h0 : -9223372036854775808 ≤ n) (h1 : n ≤ 9223372036854775807) (w : World) (htab : Lib.TabIs Tryz.prog w "internal/strconv.uint64pow10" .u64 Lib.pow10Tab) :
  Calls Tryz.prog 61 #[.int .i64 n] w fun e w' => e = .returned (.string ⟨(Lib.itoa n).toArray⟩) ∧ ∃ k os,w' = grow (w.drewN k) os := Any.strconv_Itoa Tryz.laysM171 n h0 h1 w htab
def Tryz.laysM176_ren : Go.Shelf.Ren := ⟨fun | 176 => 156 | 249 => 174 | 288 => 109 | 283 => 147 | 284 => 148 | 285 => 149 | 286 => 150 | 129 => 170 | 317 => 169 | 318 => 171 | 319 => 172 | 320 => 173 | 337 => 191 | 338 => 116 | n => n,fun | 37 => 26 | 2 => 2 | 3 => 3 | 53 => 49 | 4 => 4 | 9 => 9 | 171 => 224 | 0 => 0 | 173 => 226 | 212 => 244 | 51 => 245 | 5 => 5 | 20 => 20 | 213 => 246 | 46 => 222 | 232 => 272 | 233 => 231 | n => n,fun | 17 => 1 | 18 => 5 | 19 => 0 | n => n⟩
theorem Tryz.laysM176 : Go.Proofs.LaysM.n176 Tryz.prog Tryz.laysM176_ren := {
 mixed := by kernel_rfl
 f129 := Tryz.func170.trans (congrArg some (by kernel_rfl))
 f176 := Tryz.func156.trans (congrArg some (by kernel_rfl))
 f249 := Tryz.func174.trans (congrArg some (by kernel_rfl))
 f283 := Tryz.func147.trans (congrArg some (by kernel_rfl))
 f284 := Tryz.func148.trans (congrArg some (by kernel_rfl))
 f285 := Tryz.func149.trans (congrArg some (by kernel_rfl))
 f286 := Tryz.func150.trans (congrArg some (by kernel_rfl))
 f288 := Tryz.func109.trans (congrArg some (by kernel_rfl))
 f317 := Tryz.func169.trans (congrArg some (by kernel_rfl))
 f318 := Tryz.func171.trans (congrArg some (by kernel_rfl))
 f319 := Tryz.func172.trans (congrArg some (by kernel_rfl))
 f320 := Tryz.func173.trans (congrArg some (by kernel_rfl))
 f337 := Tryz.func191.trans (congrArg some (by kernel_rfl))
 f338 := Tryz.func116.trans (congrArg some (by kernel_rfl))
 t0 := Tryz.underlying0
 a0 := Tryz.isAgg0
 z0 := Tryz.sizeOf0
 v0 := Tryz.zeroValue0
 t2 := Tryz.underlying2
 a2 := Tryz.isAgg2
 z2 := Tryz.sizeOf2
 v2 := Tryz.zeroValue2
 t3 := Tryz.underlying3
 a3 := Tryz.isAgg3
 z3 := Tryz.sizeOf3
 v3 := Tryz.zeroValue3
 t4 := Tryz.underlying4
 a4 := Tryz.isAgg4
 z4 := Tryz.sizeOf4
 v4 := Tryz.zeroValue4
 t5 := Tryz.underlying5
 a5 := Tryz.isAgg5
 z5 := Tryz.sizeOf5
 v5 := Tryz.zeroValue5
 t9 := Tryz.underlying9
 a9 := Tryz.isAgg9
 z9 := Tryz.sizeOf9
 v9 := Tryz.zeroValue9
 t20 := Tryz.underlying20
 a20 := Tryz.isAgg20
 z20 := Tryz.sizeOf20
 v20 := Tryz.zeroValue20
 t37 := Tryz.underlying26
 a37 := Tryz.isAgg26
 z37 := Tryz.sizeOf26
 v37 := Tryz.zeroValue26
 t46 := Tryz.underlying222
 a46 := Tryz.isAgg222
 z46 := Tryz.sizeOf222
 v46 := Tryz.zeroValue222
 t51 := Tryz.underlying245
 a51 := Tryz.isAgg245
 z51 := Tryz.sizeOf245
 v51 := Tryz.zeroValue245
 t53 := Tryz.underlying49
 a53 := Tryz.isAgg49
 z53 := Tryz.sizeOf49
 v53 := Tryz.zeroValue49
 t171 := Tryz.underlying224
 a171 := Tryz.isAgg224
 z171 := Tryz.sizeOf224
 v171 := Tryz.zeroValue224
 t173 := Tryz.underlying226
 a173 := Tryz.isAgg226
 z173 := Tryz.sizeOf226
 v173 := Tryz.zeroValue226
 t212 := Tryz.underlying244
 a212 := Tryz.isAgg244
 z212 := Tryz.sizeOf244
 v212 := Tryz.zeroValue244
 t213 := Tryz.underlying246
 a213 := Tryz.isAgg246
 z213 := Tryz.sizeOf246
 t232 := Tryz.underlying272
 a232 := Tryz.isAgg272
 z232 := Tryz.sizeOf272
 v232 := Tryz.zeroValue272
 t233 := Tryz.underlying231
 a233 := Tryz.isAgg231
 z233 := Tryz.sizeOf231
 v233 := Tryz.zeroValue231
 g17 := by kernel_rfl
 g18 := by kernel_rfl
 g19 := by kernel_rfl
 i0 := by kernel_rfl
 i2 := by kernel_rfl
 i3 := by kernel_rfl
 i4 := by kernel_rfl
 i5 := by kernel_rfl
 i9 := by kernel_rfl
 i20 := by kernel_rfl
 i37 := by kernel_rfl
 i46 := by kernel_rfl
 i51 := by kernel_rfl
 i53 := by kernel_rfl
 i171 := by kernel_rfl
 i173 := by kernel_rfl
 i212 := by kernel_rfl
 i232 := by kernel_rfl
 i233 := by kernel_rfl
 m17 := by kernel_rfl
 m18 := by kernel_rfl
 m19 := by kernel_rfl }
open Go.RowKit Go.Sort Go.Lib in
theorem Tryz.strconv_AppendInt_10 (B n : Nat) (i : Int) (h0 : -9223372036854775808 ≤ i) (h1 : i ≤ 9223372036854775807) (sv : Value) (xs : List Value) (w : World) (hown : w.ownsRow B 5 1 sv n xs) (hBw : B ≤ w.heap.size) (hlim : n + 21 ≤ 140737488355328) (htab : Lib.TabBelow Tryz.prog B w "internal/strconv.uint64pow10" .u64 Lib.pow10Tab) :
  Calls Tryz.prog 156 #[sv,.int .i64 i,.int .i64 10] w fun e w' => ∃ v',e = .returned v' ∧ w'.ownsRow B 5 1 v' (n + (Lib.itoa i).length) (xs ++ Lib.byteCells (Lib.itoa i)) ∧ Below B w w' ∧ Lib.OthersKept 5 none w w' := Any.strconv_AppendInt_10 Tryz.laysM176 B n i h0 h1 sv xs w hown hBw hlim htab
def Tryz.lays146_ren : Go.Shelf.Ren := ⟨fun | 146 => 88 | 221 => 126 | 268 => 160 | 138 => 161 | 143 => 162 | 195 => 180 | 197 => 181 | 218 => 182 | 219 => 183 | 260 => 196 | 217 => 197 | 225 => 198 | 224 => 199 | 267 => 200 | 266 => 204 | 314 => 205 | n => n,fun | 9 => 9 | 31 => 169 | 3 => 3 | 4 => 4 | 0 => 0 | 105 => 254 | 21 => 21 | 5 => 5 | 46 => 222 | 119 => 273 | 139 => 276 | 138 => 275 | 146 => 277 | 51 => 245 | n => n,fun | 1 => 2 | 3 => 6 | 4 => 7 | n => n⟩
theorem Tryz.lays146 : Go.Proofs.Lays.n146 Tryz.prog Tryz.lays146_ren := {
 mixed := by kernel_rfl
 f138 := Tryz.func161.trans (congrArg some (by kernel_rfl))
 f143 := Tryz.func162.trans (congrArg some (by kernel_rfl))
 f146 := Tryz.func88.trans (congrArg some (by kernel_rfl))
 f195 := Tryz.func180.trans (congrArg some (by kernel_rfl))
 f197 := Tryz.func181.trans (congrArg some (by kernel_rfl))
 f217 := Tryz.func197.trans (congrArg some (by kernel_rfl))
 f218 := Tryz.func182.trans (congrArg some (by kernel_rfl))
 f219 := Tryz.func183.trans (congrArg some (by kernel_rfl))
 f221 := Tryz.func126.trans (congrArg some (by kernel_rfl))
 f224 := Tryz.func199.trans (congrArg some (by kernel_rfl))
 f225 := Tryz.func198.trans (congrArg some (by kernel_rfl))
 f260 := Tryz.func196.trans (congrArg some (by kernel_rfl))
 f266 := Tryz.func204.trans (congrArg some (by kernel_rfl))
 f267 := Tryz.func200.trans (congrArg some (by kernel_rfl))
 f268 := Tryz.func160.trans (congrArg some (by kernel_rfl))
 f314 := Tryz.func205.trans (congrArg some (by kernel_rfl))
 t0 := Tryz.underlying0
 a0 := Tryz.isAgg0
 z0 := Tryz.sizeOf0
 v0 := Tryz.zeroValue0
 t3 := Tryz.underlying3
 a3 := Tryz.isAgg3
 z3 := Tryz.sizeOf3
 v3 := Tryz.zeroValue3
 t4 := Tryz.underlying4
 a4 := Tryz.isAgg4
 z4 := Tryz.sizeOf4
 v4 := Tryz.zeroValue4
 t5 := Tryz.underlying5
 a5 := Tryz.isAgg5
 z5 := Tryz.sizeOf5
 v5 := Tryz.zeroValue5
 t9 := Tryz.underlying9
 a9 := Tryz.isAgg9
 z9 := Tryz.sizeOf9
 v9 := Tryz.zeroValue9
 t21 := Tryz.underlying21
 a21 := Tryz.isAgg21
 z21 := Tryz.sizeOf21
 v21 := Tryz.zeroValue21
 t31 := Tryz.underlying169
 a31 := Tryz.isAgg169
 z31 := Tryz.sizeOf169
 v31 := Tryz.zeroValue169
 t46 := Tryz.underlying222
 a46 := Tryz.isAgg222
 z46 := Tryz.sizeOf222
 v46 := Tryz.zeroValue222
 t51 := Tryz.underlying245
 a51 := Tryz.isAgg245
 z51 := Tryz.sizeOf245
 v51 := Tryz.zeroValue245
 t105 := Tryz.underlying254
 a105 := Tryz.isAgg254
 z105 := Tryz.sizeOf254
 v105 := Tryz.zeroValue254
 t119 := Tryz.underlying273
 a119 := Tryz.isAgg273
 z119 := Tryz.sizeOf273
 t138 := Tryz.underlying275
 a138 := Tryz.isAgg275
 z138 := Tryz.sizeOf275
 v138 := Tryz.zeroValue275
 t139 := Tryz.underlying276
 a139 := Tryz.isAgg276
 z139 := Tryz.sizeOf276
 v139 := Tryz.zeroValue276
 t146 := Tryz.underlying277
 a146 := Tryz.isAgg277
 z146 := Tryz.sizeOf277
 v146 := Tryz.zeroValue277
 g1 := by kernel_rfl
 g3 := by kernel_rfl
 g4 := by kernel_rfl }
open Go.RowKit Go.Lib in
theorem Tryz.strings_Split (s sep : ByteArray) (m : Int) (w : World) (hs : s.size < 4294967281) (hm : w.cell? ⟨2,0,none⟩ = some (.int .i64 m)) (h1 : 1 ≤ sep.size) :
  Calls Tryz.prog 88 #[.string s,.string sep] w fun e w' =>
   e = .returned (.slice (some ⟨w.heap.size,0,none⟩) (Lib.countB s sep + 1) (Lib.countB s sep + 1)) ∧ w' = w.alloc (.cells ((Lib.splitB sep 0 (Lib.countB s sep) s).map Value.string).toArray 9) := Any.strings_Split Tryz.lays146 (by kernel_rfl) s sep m w hs hm h1
def Tryz.lays29_ren : Go.Shelf.Ren := ⟨fun | 29 => 116 | n => n,fun | 22 => 49 | 3 => 3 | 4 => 4 | 25 => 222 | 54 => 231 | 0 => 0 | 5 => 5 | n => n,fun | 1 => 0 | n => n⟩
theorem Tryz.lays29 : Go.Proofs.Lays7.n29 Tryz.prog Tryz.lays29_ren := {
 mixed := by kernel_rfl
 f29 := Tryz.func116.trans (congrArg some (by kernel_rfl))
 t0 := Tryz.underlying0
 a0 := Tryz.isAgg0
 z0 := Tryz.sizeOf0
 v0 := Tryz.zeroValue0
 i0 := by kernel_rfl
 t3 := Tryz.underlying3
 a3 := Tryz.isAgg3
 z3 := Tryz.sizeOf3
 v3 := Tryz.zeroValue3
 i3 := by kernel_rfl
 t4 := Tryz.underlying4
 a4 := Tryz.isAgg4
 z4 := Tryz.sizeOf4
 v4 := Tryz.zeroValue4
 i4 := by kernel_rfl
 t5 := Tryz.underlying5
 a5 := Tryz.isAgg5
 z5 := Tryz.sizeOf5
 v5 := Tryz.zeroValue5
 i5 := by kernel_rfl
 t22 := Tryz.underlying49
 a22 := Tryz.isAgg49
 z22 := Tryz.sizeOf49
 v22 := Tryz.zeroValue49
 i22 := by kernel_rfl
 t25 := Tryz.underlying222
 a25 := Tryz.isAgg222
 z25 := Tryz.sizeOf222
 v25 := Tryz.zeroValue222
 i25 := by kernel_rfl
 t54 := Tryz.underlying231
 a54 := Tryz.isAgg231
 z54 := Tryz.sizeOf231
 g1 := by kernel_rfl }
theorem Tryz.bits_TrailingZeros64 (x : Nat) (hx : x < 18446744073709551616) (w : World) (hT : x ≠ 0 → TabAt 0 Lib.deBruijn64tab w) :
  Calls Tryz.prog 116 #[.int .u64 x] w fun e w' => e = .returned (.int .i64 (Lib.ctz 64 x)) ∧ w' = w := Any7.bits_TrailingZeros64 Tryz.lays29 x hx w hT
end Go.Proofs
namespace Go.Proofs.YtmjllchdhcdinaaGreatDoor
section
open Go Fm Go.RowKit Go.Proofs.YtmjllchdhcdinaaGreatDoorW.PrintWords
structure Glob (W : World) : Prop where
 bru : TabAt 0 Lib.deBruijn64tab W
 pow : Lib.TabIs Tryz.prog W "internal/strconv.uint64pow10" .u64 Lib.pow10Tab
 max : ∃ m,W.cell? ⟨2,0,none⟩ = some (.int .i64 m)
 lt : 2 < W.heap.size
theorem Hx : Tryz.prog.globalNamed "internal/strconv.uint64pow10" = some 1 := by kernel_rfl
theorem GX {W W1 : World} {a : Addr} (h : W1.heap[a.block]? = W.heap[a.block]?) : W1.cell? a = W.cell? a := by unfold World.cell?; rw [h]
theorem Glob.low {n : Nat} {W W1 : World} (h : Glob W) (hb : Below n W W1) (hn : 2 < n) : Glob W1 := by
 refine ⟨fun j hj => ?_,?_,?_,Nat.lt_of_lt_of_le h.lt hb.size⟩
 ·rw [GX (hb.block 0 (by omega))]; exact h.bru j hj
 ·have := h.pow
  unfold Lib.TabIs World.var? at this ⊢
  rw [Hx] at this ⊢
  simp only [Option.bind_some] at this ⊢
  rw [hb.block 1 (by omega)]
  exact this
 ·obtain ⟨m,hm⟩ := h.max
  exact ⟨m,by rw [GX (hb.block 2 hn)]; exact hm⟩
theorem Glob.below {W W1 : World} (h : Glob W) (hb : Below W.heap.size W W1) : Glob W1 := h.low hb h.lt
section
variable {n : Nat} {P : Program} {ops : Array Oper} {rest : List Oper} {Q : Bd n} {W : World} {f : Fm n} {d ty t t' e : Nat} {x y : Operand} {pos : String} {aft : Array Edge} {k : IntKind}
theorem osbn_ {a b : Nat} (hx : ex f x = .int k (a : Nat)) (hy : ex f y = .int k (b : Nat)) (hb : b ≤ a) (h : a < 2 ^ (k.bits - 1)) : Pv P (.binOp .sub t x y t') ty f (.int k ((a - b : Nat) : Int)) := fun W => by
 have hw := Cl k (a - b) (by omega)
 refine Eb G ?_
 rw [hx,hy]
 have e1 : binOp .sub t (.int k (a : Nat)) (.int k (b : Nat)) = Op.intArith .sub k (a : Nat) (b : Nat) := by unfold binOp; simp
 rw [e1]
 show Result.ok (Value.int k (k.wrap ((a : Int) - (b : Int)))) W = _
 rw [show (a : Int) - (b : Int) = ((a - b : Nat) : Int) by omega,hw]
theorem Kf {a b : Nat} (hx : ex f x = .int k (a : Nat)) (hy : ex f y = .int k (b : Nat)) (hb : b ≤ a) (h : a < 2 ^ (k.bits - 1)) (r : RL P ops Q rest (up f d (.int k ((a - b : Nat) : Int))) W) : LS P ops Q ⟨some d,.binOp .sub t x y t',ty,pos,aft,none⟩ rest f W := Bq (osbn_ hx hy hb h) r
theorem oixs_ {s : ByteArray} {i : Nat} {b : UInt8} (ht : P.underlying t = some .string) (hx : ex f x = .string s) (hy : ex f y = .int k (i : Nat)) (hi : s[i]? = some b) : Pv P (.index t x y) ty f (.int .u8 (b.toNat : Nat)) := fun W => by
 simp [Ru,execOp,hx,hy,Instr.index,run_underlying ht,go_sem,hi]
theorem Lx {s : ByteArray} {i : Nat} {b : UInt8} (ht : P.underlying t = some .string) (hx : ex f x = .string s) (hy : ex f y = .int k (i : Nat)) (hi : s[i]? = some b) (r : RL P ops Q rest (up f d (.int .u8 (b.toNat : Nat))) W) : LS P ops Q ⟨some d,.index t x y,ty,pos,aft,none⟩ rest f W := Bq (oixs_ ht hx hy hi) r
theorem osla_ {g m sz l : Nat} (ht : P.underlying t = some (.array m e)) (hi : (P.info? e).map (·.size) = some sz) (hx : ex f x = .pointer (some ⟨g,0,none⟩)) (hy : ex f y = .int k (l : Nat)) (hl : l < m) : Pv P (.slice t x (some y) none none) ty f (.slice (some ((⟨g,0,none⟩ : Addr).add (l * sz))) (m - l) (m - l)) := fun W => by
 obtain ⟨inf,hi',rfl⟩ := Option.map_eq_some_iff.1 hi
 have hne : ¬ m = l := by omega
 simp [Ru,execOp,Instr.sliceAt,Instr.sliceBounds,Instr.sliceBound,run_underlying ht,hx,hy,go_sem,hi',sizeOf,typeInfo,hne,Nat.le_of_lt hl]
theorem LK {g m sz l : Nat} (ht : P.underlying t = some (.array m e)) (hi : (P.info? e).map (·.size) = some sz) (hx : ex f x = .pointer (some ⟨g,0,none⟩)) (hy : ex f y = .int k (l : Nat)) (hl : l < m) (r : RL P ops Q rest (up f d (.slice (some ((⟨g,0,none⟩ : Addr).add (l * sz))) (m - l) (m - l))) W) : LS P ops Q ⟨some d,.slice t x (some y) none none,ty,pos,aft,none⟩ rest f W := Bq (osla_ ht hi hx hy hl) r
end
theorem Lk {W : World} {g t i : Nat} {cs : List Value} {xs : List Int} (hb : W.heap[g]? = some (.cells cs.toArray t (0,0))) (hl : xs.length ≤ 1000000) (h : ∀ j x,xs[j]? = some x → cs[i + j]? = some (.int .u8 x)) : (Kd.int .u8).C W (some ((⟨g,0,none⟩ : Addr).add (i * 1))) xs.length xs := by
 refine ⟨rfl,by omega,fun _ => ⟨_,rfl,fun j p hj => ⟨[.int .u8 p],rfl,rfl,fun i' u hu => ?_⟩⟩⟩
 have hi0 : i' = 0 := by
  have := (List.getElem?_eq_some_iff.1 hu).1
  simp at this
  exact this
 subst hi0
 injection hu with hu
 subst hu
 have := h j p hj
 show W.cell? (((⟨g,0,none⟩ : Addr).add (i * 1)).add (j * 1 + 0)) = _
 rw [Nat.mul_one,Nat.mul_one,Nat.add_zero,Addr.add_add,add_plain,Ac hb]
 simpa using this
def dgt (i : Nat) : Nat := if i < 10 then 48 + i else 87 + i
abbrev LV : ByteArray := { data := #[48,49,50,51,52,53,54,55,56,57,97,98,99,100,101,102,103,104,105,106,107,108,109,110,111,112,113,114,115,116,117,118,119,120,121,122] }
theorem H4 : ∀ i,i < 36 → ∃ b,LV[i]? = some b ∧ b.toNat = dgt i := by
 intro i hi
 have : ∀ i : Fin 36,LV[i.1]?.map (·.toNat) = some (dgt i.1) := by decide
 have h := this ⟨i,hi⟩
 obtain ⟨b,hb,he⟩ := Option.map_eq_some_iff.1 h
 exact ⟨b,hb,he⟩
def Dt (s : Nat) : List Int := if s < 16 then [(dgt s : Nat)] else [(dgt (s / 16) : Nat),(dgt (s % 16) : Nat)]
theorem ZB5 : (Tryz.prog.info? 5).map (·.size) = some 1 := by kernel_rfl
theorem IY : Tryz.prog.underlying 246 = some (.array 65 5) := by kernel_rfl
theorem US9 : Tryz.prog.underlying 9 = some .string := by kernel_rfl
theorem Ky (x : Nat) (w : World) (hx : x = 16 ∨ x = 36) : Calls Tryz.prog 172 #[.int .i64 (x : Nat)] w fun e w' => e = .returned (.bool (decide (x = 16))) ∧ w' = w := by
 refine enter 8 Tryz.func172 G G _ (by simp) ?_
 refine ab G<|?_
 rcases hx with rfl | rfl
 ·refine mi G<|mi G<|Kf (a := 16) (b := 1) G G (by decide) (by decide)<|oan (a := 16) (b := 15) G G (by decide) (by decide)<|oeq G G<|ist (by decide)<|ab G<|?_
  exact rt1 rfl rfl ⟨rfl,rfl⟩
 ·refine mi G<|mi G<|Kf (a := 36) (b := 1) G G (by decide) (by decide)<|oan (a := 36) (b := 35) G G (by decide) (by decide)<|oeq G G<|isf (by decide)<|ab G<|?_
  exact rt1 rfl rfl ⟨rfl,rfl⟩
theorem tz173 (w : World) (hG : Glob w) : Calls Tryz.prog 173 #[.int .u64 (16 : Nat)] w fun e w' => e = .returned (.int .i64 (4 : Nat)) ∧ w' = w := by
 refine enter 8 Tryz.func173 G G _ (by simp) ?_
 refine ai G<|cdf G<|mi G<|cl Md [] G ((Tryz.bits_TrailingZeros64 16 (by decide) w (fun _ => hG.bru)).mono ?_)
 rintro e w1 ⟨rfl,rfl⟩
 refine ⟨_,rfl,?_⟩
 refine ai G<|?_
 exact rt1 rfl rfl ⟨rfl,rfl⟩
abbrev zs65 : List Value := List.replicate 65 (.int .u8 0)
theorem digs_cell (s : Nat) (j : Nat) (x : Int) (h : (Dt s)[j]? = some x) : ((if s < 16 then zs65.set 64 (.int .u8 (dgt s : Nat)) else (zs65.set 64 (.int .u8 (dgt (s % 16) : Nat))).set 63 (.int .u8 (dgt (s / 16) : Nat))))[(if s < 16 then 64 else 63) + j]? = some (.int .u8 x) := by
 unfold Dt at h
 split at h
 ·rename_i h16
  rw [if_pos h16,if_pos h16]
  rcases j with _ | j
  ·injection h with h; subst h; simp [zs65]
  ·cases h
 ·rename_i h16
  rw [if_neg h16,if_neg h16]
  rcases j with _ | _ | j
  ·injection h with h; subst h; simp [zs65]
  ·injection h with h; subst h; simp [zs65]
  ·cases h
theorem bits150 (s : Nat) (A : Option Addr) (m c base : Nat) (xs : List Int) (w : World) (hs : s < 256) (hG : Glob w) (hR : (Kd.int .u8).R 5 w base (fun _ => True) (.slice A m c) xs) (hb : base ≤ w.heap.size) (hl : xs.length ≤ 100000) :
  Calls Tryz.prog 150 #[.slice A m c,.int .u64 (s : Nat),.int .i64 (16 : Nat),.bool false,.bool true] w fun e w' => ∃ A' c',e = .returned (.tuple #[.slice A' (xs ++ Dt s).length c',.string { data := #[] }]) ∧ (Kd.int .u8).R 5 w' base (fun _ => True) (.slice A' (xs ++ Dt s).length c') (xs ++ Dt s) ∧ w.grownBy w' (Value.slice A m c).ownBlock := by
 have h63 : (256 : Nat) ≤ 2 ^ (IntKind.bits .u64 - 1) := by decide
 refine enter 102 Tryz.func150 G G _ (by simp) ?_
 refine asl G<|ast G<|mi G<|olt G G<|isf (by omega)<|mb G<|gon G<|mi G<|gon G<|oeq G G<|isf (by omega)<|pfb G G<|mb G<|gon G<|mi G<|gon G<|ogt G G<|isf (by omega)<|pfb G G<|?_
 refine cdf G<|oal (v := .agg zs65.toArray) (cs := zs65) (fun _ => by kernel_rfl) G ?_
 intro b w1 hbe hbb hb1
 refine ai G<|mb G<|cdf G<|mi G<|cl L5 [] G ((Ky 16 w1 (.inl G)).mono ?_)
 rintro e w2 ⟨rfl,rfl⟩
 refine ⟨_,rfl,?_⟩
 refine cdt G<|mi G<|CU (a := 16) UI3 IZ G (by decide)<|cl C173 [] G ((tz173 w2 (hG.below hb1)).mono ?_)
 rintro e w3 ⟨rfl,rfl⟩
 refine ⟨_,rfl,?_⟩
 refine CU (a := 4) UI3 IZ G (by decide)<|ai G<|mi G<|CU (a := 16) UI3 KU G (by decide)<|ai G<|mi G<|CU (a := 16) UI3 IZ G (by decide)<|Kf (a := 16) (b := 1) G G (by decide) (by decide)<|ai G<|lp (σ := Nat × Nat × List Value) (fun q => [(0,.slice A m c),(1,.int .u64 (q.1 : Nat)),(3,.bool false),(4,.bool true),(11,.string { data := #[] }),(12,.pointer (some ⟨b,0,none⟩)),(13,.int .i64 (q.2.1 : Nat)),(14,.int .u64 (4 : Nat)),(15,.int .u64 (16 : Nat)),(16,.int .u64 (15 : Nat))])
  (fun q V => Below w.heap.size w V ∧ V.heap[b]? = some (.cells q.2.2.toArray 246 (0,0)) ∧ (q = (s,65,zs65) ∨ (16 ≤ s ∧ q = (s / 16,64,zs65.set 64 (.int .u8 (dgt (s % 16) : Nat)))))) (fun q => q.2.1) (s,65,zs65) ⟨rfl,rfl,rfl,rfl,rfl,rfl,rfl,rfl,rfl,rfl,rfl⟩ ⟨hb1,hbb,.inl rfl⟩ ?_
 clear hbb hb1 hG
 rintro ⟨u,i,cs⟩ f V ⟨hB,hbb,hor⟩
 simp only at hbb hor
 have hi : i = 65 ∨ i = 64 := by rcases hor with h | ⟨_,h⟩ <;> simp only [Prod.mk.injEq] at h <;> omega
 have hu : u < 256 := by rcases hor with h | ⟨_,h⟩ <;> simp only [Prod.mk.injEq] at h <;> omega
 have hcl : cs.length = 65 := by rcases hor with h | ⟨_,h⟩ <;> simp only [Prod.mk.injEq] at h <;> rw [h.2.2] <;> simp
 have hu63 : u < 2 ^ (IntKind.bits .u64 - 1) := Nat.lt_of_lt_of_le hu h63
 have hi1 : ((i : Int) - 1) = ((i - 1 : Nat) : Int) := by omega
 have hi1' : (Value.int .i64 ((i : Int) - 1)) = .int .i64 (i - 1 : Nat) := by rw [hi1]
 have hoff : ((⟨b,0 + ((i : Int) - 1).toNat * 1,none⟩ : Addr)) = ⟨b,i - 1,none⟩ := by rw [hi1,Int.toNat_natCast]; simp
 have hbd : -9223372036854775808 ≤ (i : Int) - 1 ∧ (i : Int) - 1 ≤ 9223372036854775807 := by omega
 refine mi G<|mi G<|oge G G<|cdd G (fun hge0 => ?_) (fun hlt0 => ?_)
 ·have hge : 16 ≤ u := by omega
  have h0 : u = s ∧ i = 65 ∧ cs = zs65 := by
   rcases hor with h | ⟨_,h⟩ <;> simp only [Prod.mk.injEq] at h
   ·exact h
   ·omega
  obtain ⟨rfl,rfl,rfl⟩ := h0
  obtain ⟨by_,hby,hbe⟩ := H4 (u % 16) (by omega)
  have hand : u &&& 15 = u % 16 := Nat.and_two_pow_sub_one_eq_mod u 4
  refine mi G<|osb G G (by first | assumption | omega)<|ai G<|?_
  refine mi G<|mi G<|mi G<|oan (a := u) (b := 15) G G hu63 (by decide)<|Lx (i := u &&& 15) (b := by_) US9 G G (by rw [hand]; exact hby) ?_
  refine Ee (i := 65 - 1) IY ZB5 G G (by decide)<|Bc (v := .int .u8 (by_.toNat : Nat)) (cs := zs65) (i := 64) S5 G G G hbb (by simp) ?_
  intro V1 hbb1 hg1
  refine mi G<|mi G<|LL (a := u) (b := 4) G G (by decide)<|ai G<|?_
  exact ⟨(u / 16,64,zs65.set 64 (.int .u8 (dgt (u % 16) : Nat))),⟨rfl,rfl,rfl,rfl,rfl,rfl,rfl,rfl,rfl,rfl,rfl⟩,⟨hB.grown hg1 hB.size (fun k e => by cases e; omega),by rw [← hbe]; exact hbb1,.inr ⟨hge,rfl⟩⟩,by show (64 : Nat) < 65; decide⟩
 ·have hlt : u < 16 := by omega
  obtain ⟨by_,hby,hbe⟩ := H4 u (by omega)
  refine mi G<|osb G G (by first | assumption | omega)<|ai G<|?_
  refine mi G<|mi G<|Lx (i := u) (b := by_) US9 G G hby<|Ee (i := (i : Int) - 1) IY ZB5 G G (by omega) ?_
  refine Bc (v := .int .u8 (by_.toNat : Nat)) (cs := cs) (i := i - 1) S5 (by show Value.pointer _ = _; rw [hoff]) G G hbb (by omega) ?_
  intro V1 hbb1 hg1
  refine mb G<|cdf G<|mb G<|cdt G<|ms G<|mi G<|LK (l := i - 1) IY ZB5 G (by exact hi1') (by omega) ?_
  have hcs : cs.set (i - 1) (.int .u8 (by_.toNat : Nat)) = (if s < 16 then zs65.set 64 (.int .u8 (dgt s : Nat)) else (zs65.set 64 (.int .u8 (dgt (s % 16) : Nat))).set 63 (.int .u8 (dgt (s / 16) : Nat))) ∧ (if s < 16 then 64 else 63) = i - 1 ∧ (Dt s).length = 65 - (i - 1) := by
   rcases hor with h | ⟨h16,h⟩ <;> simp only [Prod.mk.injEq] at h <;> obtain ⟨rfl,rfl,rfl⟩ := h
   ·rw [if_pos hlt,if_pos hlt,hbe]
    exact ⟨rfl,rfl,by unfold Dt; rw [if_pos hlt]; rfl⟩
   ·rw [if_neg (by omega),if_neg (by omega),hbe]
    exact ⟨rfl,rfl,by unfold Dt; rw [if_neg (by omega)]; rfl⟩
  rw [hcs.1] at hbb1
  have hC := Lk hbb1 (xs := Dt s) (by have := hcs.2.2; omega) (fun j x hj => digs_cell s j x hj)
  rw [hcs.2.1,hcs.2.2] at hC
  have hB1 := hB.grown hg1 hB.size (fun k e => by cases e; omega)
  have hR1 := Kd.R_below hR hB1
  refine BW (Kd.int .u8) (Rr := (Kd.int .u8).K V1) U26 I5 G (by decide) (by decide) G G hR1 hC (okp := fun i => some i ≠ (Value.slice A m c).ownBlock) (fun _ _ h => h) (fun _ h => ⟨trivial,h⟩) (fun _ _ => trivial) (Nat.le_trans hb hB1.size) (by omega) ?_
  intro A' c' V2 hR2 hg2
  refine asl G<|?_
  have hB2 := Cr (Ap hB1 _) hg2
  exact rt2 rfl rfl rfl ⟨A',c',rfl,hR2,hB2⟩
theorem SetB.own {α : Type} {d : Kd α} {W W1 : World} {base b' s e : Nat} {ok : Nat → Prop} {u v : Value} {xs : List α} (h : SetB W base u s) (hr : d.R e W b' ok v xs) (he : 49 ≠ e) (hg : W.grownBy W1 v.ownBlock) : SetB W1 base u s := by
 obtain ⟨A,n,c,rfl,hc,h' | ⟨h0,rfl,g,cs,rfl,hb,hh,h1⟩⟩ := h
 ·exact ⟨A,n,c,rfl,hc,.inl h'⟩
 ·refine ⟨_,1,c,rfl,hc,.inr ⟨h0,rfl,g,cs,rfl,hb,(hg.block g (Am hh) (fun e' => ?_)).trans hh,h1⟩⟩
  obtain ⟨cells,hcl⟩ := Kd.R_typed hr g e'.symm
  exact An hh hcl he rfl
theorem appu109 (s : Nat) (A : Option Addr) (m c base : Nat) (xs : List Int) (w : World) (hs : s < 256) (hG : Glob w) (hR : (Kd.int .u8).R 5 w base (fun _ => True) (.slice A m c) xs) (hb : base ≤ w.heap.size) (hl : xs.length ≤ 100000) :
  Calls Tryz.prog 109 #[.slice A m c,.int .u64 (s : Nat),.int .i64 (16 : Nat)] w fun e w' => ∃ A' c',e = .returned (.slice A' (xs ++ Dt s).length c') ∧ (Kd.int .u8).R 5 w' base (fun _ => True) (.slice A' (xs ++ Dt s).length c') (xs ++ Dt s) ∧ w.grownBy w' (Value.slice A m c).ownBlock := by
 refine enter 36 Tryz.func109 G G _ (by simp) ?_
 refine asl G<|mi G<|oeq G G<|isf (by omega)<|?_
 refine cdf G<|ms G<|mi G<|mi G<|cl Ma [] G ((bits150 s A m c base xs w hs hG hR hb hl).mono ?_)
 rintro e w1 ⟨A',c',rfl,hR1,hb1⟩
 refine ⟨_,rfl,?_⟩
 refine mv G<|oex G G<|oex G G<|asl G<|ms G<|asl G<|?_
 exact rt1 rfl rfl ⟨A',c',rfl,hR1,hb1⟩
theorem appu70 (s : Nat) (A : Option Addr) (m c base : Nat) (xs : List Int) (w : World) (hs : s < 256) (hG : Glob w) (hR : (Kd.int .u8).R 5 w base (fun _ => True) (.slice A m c) xs) (hb : base ≤ w.heap.size) (hl : xs.length ≤ 100000) :
  Calls Tryz.prog 70 #[.slice A m c,.int .u64 (s : Nat),.int .i64 (16 : Nat)] w fun e w' => ∃ A' c',e = .returned (.slice A' (xs ++ Dt s).length c') ∧ (Kd.int .u8).R 5 w' base (fun _ => True) (.slice A' (xs ++ Dt s).length c') (xs ++ Dt s) ∧ w.grownBy w' (Value.slice A m c).ownBlock := by
 refine enter 11 Tryz.func70 G G _ (by simp) ?_
 refine asl G<|ms G<|mi G<|mi G<|cl C109 [] G ((appu109 s A m c base xs w hs hG hR hb hl).mono ?_)
 rintro e w1 ⟨A',c',rfl,hR1,hb1⟩
 refine ⟨_,rfl,?_⟩
 refine asl G<|?_
 exact rt1 rfl rfl ⟨A',c',rfl,hR1,hb1⟩
theorem canonical69 (u : Value) (x bx : Nat) (w : World) (hu : SetB w bx u x) (hx : x < 4611686018427387904) :
  Calls Tryz.prog 69 #[u] w fun e w' => ∃ r,e = .returned r ∧ SetB w' w.heap.size r x ∧ Below w.heap.size w w' := by
 obtain ⟨A,n,c,rfl,hnc,hor⟩ := id hu
 refine enter 5 Tryz.func69 G G _ (by simp) ?_
 refine asl G<|ms G<|cl Mh [] G ((Ij _ _ x 0 bx w.heap.size w hu (SetB.nil _ _) hx (by decide)).mono ?_)
 rintro e w2 ⟨r,rfl,hr2,hb2⟩
 rw [Nat.or_zero] at hr2
 obtain ⟨A2,n2,c2,rfl,_,_⟩ := id hr2
 refine ⟨_,rfl,?_⟩
 refine asl G<|?_
 exact rt1 rfl rfl ⟨_,rfl,hr2,hb2⟩
def BR (s : Nat) : List Int := if s = 0 then [] else Dt s ++ [32]
theorem KH (u : Value) (x bx : Nat) (w : World) (hu : SetB w bx u x) (hx : x < 256) (hG : Glob w) :
  Calls Tryz.prog 32 #[u] w fun e w' => e = .returned (.string (strOfNums (BR x))) ∧ Below w.heap.size w w' := by
 obtain ⟨A,n,c,rfl,hnc,hor⟩ := id hu
 have hhl : (Dt x).length ≤ 2 := by unfold Dt; split <;> simp
 refine enter 22 Tryz.func32 G G _ (by simp) ?_
 refine ast G<|asl G<|ms G<|cl C69 [] G ((canonical69 _ x bx w hu (by omega)).mono ?_)
 rintro e w1 ⟨r,rfl,hr,hb1⟩
 obtain ⟨A1,n1,c1,rfl,hnc1,hor1⟩ := id hr
 refine ⟨_,rfl,?_⟩
 refine oln U82 G<|mi G<|lp (σ := Nat × Option Addr × Nat × List Int) (fun q => [(3,.slice q.2.1 q.2.2.2.length q.2.2.1),(7,.slice A1 n1 c1),(8,.int .i64 n1),(9,.int .i64 q.1)])
  (fun q V => q.1 ≤ n1 ∧ Below w.heap.size w V ∧ SetB V w.heap.size (.slice A1 n1 c1) x ∧ Glob V ∧ (Kd.int .u8).R 5 V w.heap.size (fun _ => True) (.slice q.2.1 q.2.2.2.length q.2.2.1) q.2.2.2 ∧ q.2.2.2 = (if q.1 = 0 then [] else BR x)) (fun q => n1 - q.1) (0,none,0,[]) ⟨rfl,rfl,rfl,rfl,rfl⟩ ⟨Nat.zero_le _,hb1,hr,hG.below hb1,Kd.R_nil _ _ _ _ _,rfl⟩ ?_
 rintro ⟨k,A2,c2,ys⟩ f V ⟨hk,hB,hS,hGV,hR,hys⟩
 simp only at hk hR hys
 obtain ⟨A1',n1',c1',he,_,hor2⟩ := id hS
 injection he with he1 he2 he3
 subst he1 he2 he3
 have hn1 : n1 ≤ 1 := by rcases hor2 with h | h <;> omega
 have hG2 := hG.lt
 refine olt G G<|cdd G (fun hlt => ?_) (fun hge => ?_)
 ·have hkl : k < n1 := Int.ofNat_lt.1 hlt
  have hk0 : k = 0 := by omega
  rw [if_pos hk0] at hys
  subst hk0 hys
  rcases hor2 with ⟨_,h0⟩ | ⟨hx0,_,g,cs,rfl,hgb,hg,h1⟩
  ·omega
  ·have hcell : V.cell? ((⟨g,0,none⟩ : Addr).add (0 * 1)) = some (.int .u64 (x : Nat)) := by rw [Nat.zero_mul,BF,Ac hg]; exact h1
   refine AD U82 Z49 G G (by first | assumption | omega)<|old G49 G ‹_›<|ai G<|?_
   refine ms G<|mi G<|cl C70 [] G ((appu70 x A2 0 c2 w.heap.size [] V hx hGV hR hB.size (by simp)).mono ?_)
   rintro e V1 ⟨A3,c3,rfl,hR1,hg3⟩
   refine ⟨_,rfl,?_⟩
   refine asl G<|?_
   simp only [List.nil_append] at hR1 ⊢
   have hB1 := hB.grown hg3 hB.size (fun k hk => Kd.R_base hR k hk)
   have hS1 := hS.own hR (by decide) hg3
   refine ms G<|EJ (bytes := 1) (m := (Dt x).length) (c := c3) (A := A3) (Kd.int .u8) (p := 32) (cs := [.int .u8 32]) U26 I5 G (by decide) (by decide) G (by simp) G (AJ U26 I5 G G) hR1 (okp := fun i => some i ≠ (Value.slice A3 (Dt x).length c3).ownBlock) G (fun i hi => ⟨trivial,hi⟩) (fun _ _ => trivial) hB1.size (by omega) ?_
   intro A4 c4 V2 hR2 hg4
   refine asl G<|oad G G (by first | assumption | omega)<|mi G<|?_
   have hB2 := hB1.grown hg4 hB1.size (fun k hk => Kd.R_base hR1 k hk)
   exact ⟨(1,A4,c4,Dt x ++ [32]),⟨rfl,rfl,rfl,rfl,rfl⟩,⟨hkl,hB2,hS1.own hR1 (by decide) hg4,hG.low hB2 hG2,hR2,by show Dt x ++ [32] = BR x; unfold BR; rw [if_neg hx0]⟩,by show n1 - 1 < n1 - 0; omega⟩
 ·have hke : ys = BR x := by
   rw [hys]
   rcases hor2 with ⟨h0,h1⟩ | ⟨h0,h1,_⟩
   ·have : k = 0 := by omega
    rw [if_pos this,h0]; rfl
   ·rw [if_neg (by omega)]
  subst hke
  refine ms G<|?_
  have hcv := Kd.C_string (src := 26) (dst := 9) (c := c2) U26 UI5 US9 (Kd.R_reads' hR).2.2
  refine BH (v := .string (strOfNums (BR x))) (w1 := V) ?_ ?_
  ·simp only [Ru,execOp]
   show (do let v ← convert 26 9 (Value.slice A2 (BR x).length c2); pure (Next.value v) : Sem Next).run Tryz.prog V = _
   simp only [Sem.run_bind,hcv,Result.andThen_ok,Sem.run_pure]
  refine ast G<|?_
  exact rt1 rfl rfl ⟨rfl,hB⟩
end
section
open Go
section
variable {κ : Type} [DecidableEq κ] (succ : κ → Nat → κ)
def BE (o : List κ) (t : κ) : List κ := if t ∈ o then o else o ++ [t]
def BX (o : List κ) (s : κ) : Nat → List κ
 | 0 => o
 | x + 1 => BE (BX o s x) (succ s x)
def Ca (o : List κ) (s : κ) (x : Nat) : List Int := (List.range x).map fun y => (((BX succ o s (y + 1)).idxOf (succ s y) : Nat) : Int)
def AZ (L : Nat) (start : κ) : Nat → List κ
 | 0 => [start]
 | k + 1 => match (AZ L start k)[k]? with
  | some s => BX succ (AZ L start k) s L
  | none => AZ L start k
def Cg (L : Nat) (start : κ) (k : Nat) : List (List Int) := (List.range k).map fun j => match (AZ succ L start j)[j]? with
 | some s => Ca succ (AZ succ L start j) s L
 | none => []
theorem GF (o : List κ) (t : κ) : o <+: BE o t := by unfold BE; split; exact List.prefix_refl _; exact ⟨_,rfl⟩
theorem mem_insV {o : List κ} {t u : κ} : u ∈ BE o t ↔ u ∈ o ∨ u = t := by
 unfold BE
 split
 ·rename_i h; exact ⟨.inl,fun h' => h'.elim id (fun e => e ▸ h)⟩
 ·simp
theorem nodup_insV {o : List κ} {t : κ} (h : o.Nodup) : (BE o t).Nodup := by
 unfold BE
 split
 ·exact h
 ·rename_i hn
  rw [List.nodup_append]
  refine ⟨h,by simp,fun a ha b hb => ?_⟩
  rw [List.mem_singleton.1 hb]
  rintro rfl
  exact hn ha
theorem Gp (o : List κ) (s : κ) : ∀ x,o <+: BX succ o s x
 | 0 => List.prefix_refl _
 | x + 1 => (Gp o s x).trans (GF _ _)
theorem Hl (o : List κ) (s : κ) {x y : Nat} (h : x ≤ y) : BX succ o s x <+: BX succ o s y := by
 induction h with
 | refl => exact List.prefix_refl _
 | step _ ih => exact ih.trans (GF _ _)
theorem Dj {o : List κ} (h : o.Nodup) (s : κ) : ∀ x,(BX succ o s x).Nodup
 | 0 => h
 | x + 1 => nodup_insV (Dj h s x)
theorem El {P : κ → Prop} {o : List κ} {s : κ} {L : Nat} (h : ∀ u ∈ o,P u) (hs : ∀ x,x < L → P (succ s x)) : ∀ x,x ≤ L → ∀ u ∈ BX succ o s x,P u
 | 0,_ => h
 | x + 1,hx => fun u hu => by
  rcases mem_insV.1 hu with h1 | rfl
  ·exact El h hs x (by omega) u h1
  ·exact hs x (by omega)
theorem E9 (L : Nat) (start : κ) (k : Nat) : AZ succ L start k <+: AZ succ L start (k + 1) := by
 show _ <+: (match (AZ succ L start k)[k]? with | some s => BX succ (AZ succ L start k) s L | none => AZ succ L start k)
 split
 ·exact Gp _ _ _ _
 ·exact List.prefix_refl _
theorem Fv (L : Nat) (start : κ) {k m : Nat} (h : k ≤ m) : AZ succ L start k <+: AZ succ L start m := by
 induction h with
 | refl => exact List.prefix_refl _
 | step _ ih => exact ih.trans (E9 _ _ _ _)
theorem B4 (L : Nat) (start : κ) : ∀ k,(AZ succ L start k).Nodup
 | 0 => by simp [AZ]
 | k + 1 => by
  show (match (AZ succ L start k)[k]? with | some s => BX succ (AZ succ L start k) s L | none => AZ succ L start k).Nodup
  split
  ·exact Dj _ (B4 L start k) _ _
  ·exact B4 L start k
theorem DM {P : κ → Prop} {L : Nat} {start : κ} (h0 : P start) (hs : ∀ s x,P s → x < L → P (succ s x)) : ∀ k,∀ u ∈ AZ succ L start k,P u
 | 0 => fun u hu => by rw [List.mem_singleton.1 hu]; exact h0
 | k + 1 => by
  show ∀ u ∈ (match (AZ succ L start k)[k]? with | some s => BX succ (AZ succ L start k) s L | none => AZ succ L start k),P u
  have ih := DM h0 hs k
  split
  ·rename_i s hk
   exact El succ ih (fun x hx => hs s x (ih s (List.mem_of_getElem? hk)) hx) L (Nat.le_refl _)
  ·exact ih
theorem Fu {L : Nat} {start : κ} {k : Nat} {s : κ} (h : (AZ succ L start k)[k]? = some s) : AZ succ L start (k + 1) = BX succ (AZ succ L start k) s L := by
 show (match (AZ succ L start k)[k]? with | some s => BX succ (AZ succ L start k) s L | none => AZ succ L start k) = _
 rw [h]
theorem Gn {L : Nat} {start : κ} {k : Nat} {s : κ} (h : (AZ succ L start k)[k]? = some s) : Cg succ L start (k + 1) = Cg succ L start k ++ [Ca succ (AZ succ L start k) s L] := by
 unfold Cg
 rw [List.range_succ,List.map_append]
 simp [h]
theorem Hk (o : List κ) (s : κ) (x : Nat) : Ca succ o s (x + 1) = Ca succ o s x ++ [(((BE (BX succ o s x) (succ s x)).idxOf (succ s x) : Nat) : Int)] := by
 unfold Ca
 rw [List.range_succ,List.map_append]
 rfl
theorem BY (o : List κ) (s : κ) (x : Nat) : (Ca succ o s x).length = x := by simp [Ca]
theorem DI (L : Nat) (start : κ) (k : Nat) : (Cg succ L start k).length = k := by simp [Cg]
end
section
variable {κ : Type}
def nums (key : κ → ByteArray) (o : List κ) : List (ByteArray × Value) := o.zipIdx.map fun p => (key p.1,.int .i64 (p.2 : Nat))
theorem Eh (key : κ → ByteArray) (o : List κ) : (nums key o).length = o.length := by simp [nums]
theorem FD [DecidableEq κ] (key : κ → ByteArray) (P : κ → Prop) (hinj : ∀ s t,P s → P t → key s = key t → s = t) (t : κ) (ht : P t) : ∀ (o : List κ) (i : Nat),(∀ u ∈ o,P u) → BK ((o.zipIdx i).map fun p => (key p.1,Value.int .i64 (p.2 : Nat))) (key t) = if t ∈ o then some (.int .i64 ((o.idxOf t + i : Nat) : Int)) else none
 | [],i,_ => rfl
 | u :: o,i,h => by
  have ih := FD key P hinj t ht o (i + 1) (fun v hv => h v (List.mem_cons_of_mem _ hv))
  by_cases e : u = t
  ·subst e
   simp [BK,(MapKept.bytes_beq (key u) (key u)).2 rfl]
  ·have hk : (key u == key t) = false := by
    cases hh : key u == key t with
    | false => rfl
    | true => exact absurd (hinj u t (h u (List.mem_cons_self ..)) ht ((MapKept.bytes_beq _ _).1 hh)) e
   have hne : ¬ t = u := fun h => e h.symm
   simp only [List.zipIdx_cons,List.map_cons,BK,List.find?_cons,hk,List.mem_cons,hne,false_or,List.idxOf_cons,beq_iff_eq,e,if_false]
   rw [show ((List.find? (fun p => p.1 == key t) ((o.zipIdx (i + 1)).map fun p => (key p.1,Value.int .i64 (p.2 : Nat)))).map (·.2)) = BK ((o.zipIdx (i + 1)).map fun p => (key p.1,Value.int .i64 (p.2 : Nat))) (key t) from rfl,ih]
   have hb : (u == t) = false := by simpa using e
   simp only [hb,cond_false]
   split
   ·congr 3; omega
   ·rfl
theorem Fx (key : κ → ByteArray) (o : List κ) (t : κ) : nums key (o ++ [t]) = nums key o ++ [(key t,.int .i64 (o.length : Nat))] := by
 simp [nums,List.zipIdx_append]
theorem D0 [DecidableEq κ] (key : κ → ByteArray) {P : κ → Prop} (hinj : ∀ s t,P s → P t → key s = key t → s = t) {t : κ} (ht : P t) {o : List κ} (h : ∀ u ∈ o,P u) : BK (nums key o) (key t) = if t ∈ o then some (.int .i64 ((o.idxOf t : Nat) : Int)) else none := FD key P hinj t ht o 0 h
theorem GI [DecidableEq κ] {o : List κ} {t : κ} : (BE o t).idxOf t = if t ∈ o then o.idxOf t else o.length := by
 unfold BE
 split
 ·rfl
 ·rename_i h
  rw [List.idxOf_append,if_neg h]
  simp
end
end
section
open Go Fm Go.RowKit Go.Proofs.YtmjllchdhcdinaaGreatDoorW.PrintWords
theorem Ds : Tryz.prog.underlying 118 = some (.map 9 3) := by kernel_rfl
theorem zv3 (w : World) : (zeroValue 3).run Tryz.prog w = .ok (.int .i64 0) w := by kernel_rfl
section
variable {κ : Type} [DecidableEq κ]
theorem visit73 (key : κ → ByteArray) (o : List κ) (t : κ) (b r : Nat) (w : World) (hb : w.heap[b]? = some (.cells #[.map (some r)] 118 (0,0))) (hm : MapIs w r (nums key o))
  (hf : BK (nums key o) (key t) = if t ∈ o then some (.int .i64 ((o.idxOf t : Nat) : Int)) else none) :
  Calls Tryz.prog 73 #[.string (key t),.pointer (some ⟨b,0,none⟩)] w fun e w' => e = .returned (.int .i64 (((BE o t).idxOf t : Nat) : Int)) ∧ MapIs w' r (nums key (BE o t)) ∧ w.grownBy w' (some r) := by
 have hc : w.cell? ⟨b,0,none⟩ = some (.map (some r)) := (Ac hb 0).trans rfl
 refine enter 20 Tryz.func73 G G _ (by simp) ?_
 refine ai G<|old G7 G ‹_›<|mt G<|olk (z := .int .i64 0) US9 Ds G G hm (zv3 w) ?_
 by_cases ht : t ∈ o
 ·rw [if_pos ht] at hf
  rw [hf]
  refine mv G<|oex G G<|oex G G<|ai G<|ab G<|mb G<|ont G<|cdf G<|mi G<|ai G<|?_
  have e : BE o t = o := by unfold BE; rw [if_pos ht]
  rw [e]
  exact rt1 rfl rfl ⟨rfl,hm,B6 _ _⟩
 ·rw [if_neg ht] at hf
  rw [hf]
  refine mv G<|oex G G<|oex G G<|ai G<|ab G<|mb G<|ont G<|cdt G<|old G7 G ‹_›<|Kz Ds G hm<|ai G<|old G7 G ‹_›<|mt G<|mi G<|opm US9 Ds G G G hm hf ?_
  intro w1 hm1 hg1
  refine mi G<|ai G<|?_
  have e : BE o t = o ++ [t] := by unfold BE; rw [if_neg ht]
  have ei : (BE o t).idxOf t = o.length := by rw [GI,if_neg ht]
  rw [ei,e,Fx]
  rw [Eh] at hm1 ⊢
  exact rt1 rfl rfl ⟨rfl,hm1,hg1⟩
theorem R_clo {α : Type} {d : Kd α} {e base : Nat} {V V' : World} {C C' : Nat → Prop} {v : Value} {xs : List α} (hR : d.R e V base (fun k => ¬ C k) v xs) (hs : ∀ k,k < V.heap.size → ¬ C k → V'.heap[k]? = V.heap[k]?) (hC : ∀ k,C' k → C k ∨ V.heap.size ≤ k) : d.R e V' base (fun k => ¬ C' k) v xs :=
 Kd.R_mono (Kd.R_step (Kd.R_bound hR) (fun k hk hlt => hs k hlt hk.1)) (fun k hk h => by
  rcases hC k h with h | h
  ·exact hk.1 h
  ·have := hk.2.2.1; omega)
theorem R_clo2 {α : Type} {d : Kd α} {e base : Nat} {V V' : World} {C C' q : Nat → Prop} {v : Value} {xs : List α} (hR : d.R e V base (fun k => ¬ C k ∧ q k) v xs) (hs : ∀ k,k < V.heap.size → ¬ C k → V'.heap[k]? = V.heap[k]?) (hC : ∀ k,C' k → C k ∨ V.heap.size ≤ k) : d.R e V' base (fun k => ¬ C' k ∧ q k) v xs :=
 Kd.R_mono (Kd.R_step (Kd.R_bound hR) (fun k hk hlt => hs k hlt hk.1.1)) (fun k hk => ⟨fun h => by
  rcases hC k h with h | h
  ·exact hk.1.1 h
  ·have := hk.2.2.1; omega,hk.1.2⟩)
theorem I6 {β : Type} {l m : List β} {k : Nat} {a : β} (h : l <+: m) (hk : l[k]? = some a) : m[k]? = some a := by
 obtain ⟨t,rfl⟩ := h
 rw [List.getElem?_append_left (List.getElem?_eq_some_iff.1 hk).1]
 exact hk
structure Expl (key : κ → ByteArray) (succ : κ → Nat → κ) (L N : Nat) (start : κ) (P : κ → Prop) (n0 : Nat) (w0 : World) (kn : Nat) (caps : List Value) (Inv : (Nat → Prop) → List κ → World → Prop) : Prop where
 hL : 0 < L ∧ L ≤ 64
 hN : N ≤ 4096
 callable : Ag Tryz.prog kn
 move : ∀ C o V V',Below n0 w0 V → Inv C o V → Below n0 w0 V' → V.heap.size ≤ V'.heap.size → (∀ k,C k → V'.heap[k]? = V.heap[k]?) → Inv C o V'
 lt : ∀ C o V,Inv C o V → ∀ k,C k → k < V.heap.size
 start : P start
 closed : ∀ s x,P s → x < L → P (succ s x)
 inj : ∀ s t,P s → P t → key s = key t → s = t
 many : ∀ o : List κ,o.Nodup → (∀ u ∈ o,P u) → o.length ≤ N
 next : ∀ C o k s x V,Below n0 w0 V → Inv C o V → o[k]? = some s → x < L → (∀ u ∈ o,P u) → o.length ≤ N → Calls Tryz.prog kn (Value.int .i64 (k : Nat) :: Value.int .u8 (x : Nat) :: caps).toArray V fun e V' =>
  e = .returned (.string (key (succ s x))) ∧ Below n0 w0 V' ∧ V.heap.size ≤ V'.heap.size ∧ (∀ k,k < V.heap.size → ¬ C k → V'.heap[k]? = V.heap[k]?) ∧ ∃ C' : Nat → Prop,(∀ k,C' k → C k ∨ V.heap.size ≤ k) ∧ Inv C' (BE o (succ s x)) V'
structure EX (key : κ → ByteArray) (n0 : Nat) (w0 w : World) (Inv : (Nat → Prop) → List κ → World → Prop) (C0 : Nat → Prop) (b r : Nat) (C : Nat → Prop) (o : List κ) (V : World) : Prop where
 inv : Inv C o V
 sub : ∀ k,C k → C0 k ∨ w.heap.size ≤ k
 old : ∀ k,k < w.heap.size → ¬ C0 k → V.heap[k]? = w.heap[k]?
 low : Below n0 w0 V
 sz : w.heap.size ≤ V.heap.size
 box : V.heap[b]? = some (.cells #[.map (some r)] 118 (0,0))
 map : MapIs V r (nums key o)
 nb : ¬ C b
 nr : ¬ C r
 hb : w.heap.size ≤ b
 hr : w.heap.size ≤ r
section
variable {key : κ → ByteArray} {succ : κ → Nat → κ} {L N : Nat} {start : κ} {P : κ → Prop} {n0 : Nat} {w0 w : World} {kn : Nat} {caps : List Value} {Inv : (Nat → Prop) → List κ → World → Prop} {C0 C : Nat → Prop} {b r : Nat} {o : List κ} {V V' : World}
theorem EX.new (E : Expl key succ L N start P n0 w0 kn caps Inv) (hn0 : n0 ≤ w.heap.size) (h : EX key n0 w0 w Inv C0 b r C o V) (hb : Below V.heap.size V V') : EX key n0 w0 w Inv C0 b r C o V' := by
 have hlow : Below n0 w0 V' := h.low.trans ⟨hb.os,hb.tape,hb.output,hb.size,fun i hi => hb.block i (Nat.lt_of_lt_of_le hi (Nat.le_trans hn0 h.sz))⟩
 exact ⟨E.move C o V V' h.low h.inv hlow hb.size (fun k hk => hb.block k (E.lt C o V h.inv k hk)),h.sub,fun k hk hc => (hb.block k (Nat.lt_of_lt_of_le hk h.sz)).trans (h.old k hk hc),hlow,Nat.le_trans h.sz hb.size,Ab h.box hb,h.map.below hb,h.nb,h.nr,h.hb,h.hr⟩
theorem EX.turn (E : Expl key succ L N start P n0 w0 kn caps Inv) (hn0 : n0 ≤ w.heap.size) {g e : Nat} {cs : Array Value} (h : EX key n0 w0 w Inv C0 b r C o V) (hg : V.grownBy V' (some g)) (hc : ¬ C g) (hgw : w.heap.size ≤ g) (hgt : V.heap[g]? = some (.cells cs e (0,0))) (he : 118 ≠ e) : EX key n0 w0 w Inv C0 b r C o V' := by
 have hlow : Below n0 w0 V' := h.low.grown hg (Nat.le_trans hn0 h.sz) (fun k e => by cases e; omega)
 exact ⟨E.move C o V V' h.low h.inv hlow hg.size (fun k hk => hg.block k (E.lt C o V h.inv k hk) (fun e => by injection e with e; subst e; exact hc hk)),h.sub,fun k hk hc => (hg.block k (Nat.lt_of_lt_of_le hk h.sz) (fun e => by injection e with e; omega)).trans (h.old k hk hc),hlow,Nat.le_trans h.sz hg.size,
  (hg.block b (Am h.box) (fun e' => An h.box hgt he (by injection e'))).trans h.box,h.map.keep hg hgt,h.nb,h.nr,h.hb,h.hr⟩
theorem EX.row (E : Expl key succ L N start P n0 w0 kn caps Inv) (hn0 : n0 ≤ w.heap.size) {α : Type} {d : Kd α} {e base : Nat} {v : Value} {xs : List α} (h : EX key n0 w0 w Inv C0 b r C o V) (hr : d.R e V base (fun k => ¬ C k) v xs) (hbase : w.heap.size ≤ base) (he : 118 ≠ e) (hg : V.grownBy V' v.ownBlock) : EX key n0 w0 w Inv C0 b r C o V' := by
 cases ho : v.ownBlock with
 | none =>
  rw [ho] at hg
  exact h.new E hn0 ((Below.refl _ _).grown hg (Nat.le_refl _) (fun k e => by cases e))
 | some g =>
  rw [ho] at hg
  obtain ⟨cells,hc⟩ := Kd.R_typed hr g ho
  exact h.turn E hn0 hg (hr.1 g ho) (Nat.le_trans hbase (Kd.R_base hr g ho)) hc he
end
theorem HA {key : κ → ByteArray} {succ : κ → Nat → κ} {L N : Nat} {start : κ} {P : κ → Prop} {n0 : Nat} {w0 : World} {kn : Nat} {caps : List Value} {Inv : (Nat → Prop) → List κ → World → Prop} (E : Expl key succ L N start P n0 w0 kn caps Inv) (bud : Nat) (hbud : N ≤ bud) (C0 : Nat → Prop) (w : World) (hw : Below n0 w0 w) (hn0 : n0 ≤ w.heap.size) (h0 : Inv C0 [start] w) :
  Calls Tryz.prog 35 #[.int .i64 (L : Nat),.int .i64 (bud : Nat),.string (key start),.func (.func kn) #[] caps.toArray] w fun e w' => ∃ A c K C',e = .returned (.tuple #[.slice A K c,.bool true]) ∧ (AZ succ L start K).length = K ∧ Kii.R 22 w' w.heap.size (fun k => ¬ C' k) (.slice A K c) (Cg succ L start K) ∧ Inv C' (AZ succ L start K) w' ∧ (∀ k,C' k → C0 k ∨ w.heap.size ≤ k) ∧ (∀ k,k < w.heap.size → ¬ C0 k → w'.heap[k]? = w.heap[k]?) ∧ Below n0 w0 w' := by
 have hL1 := E.hL.1
 have hL2 := E.hL.2
 have hNN := E.hN
 refine enter 56 Tryz.func35 G G _ (by simp) ?_
 refine asl G<|ab G<|Kh ?_
 intro w1 hm1 hb1
 refine mt G<|?_
 have hf0 : BK (nums key ([] : List κ)) (key start) = none := rfl
 refine opi US9 Ds G G G hm1 hf0 ?_
 intro w2 hm2 hg2
 have hr2 := hm2.lt
 have hs1 := hb1.size
 have hs2 := hg2.size
 refine mm G<|oal (v := .map none) (cs := [.map none]) (fun _ => by kernel_rfl) G ?_
 intro b w3 hbe hbb hb3
 have hs3 := hb3.size
 refine Bc (v := .map (some w.heap.size)) (cs := [.map none]) (i := 0) (fun _ => by kernel_rfl) G G G hbb (by simp) ?_
 intro w4 hb4 hg4
 have hm4 := (hm2.below hb3).keep hg4 hbb
 have hw1 : w.grownBy w4 none := AF (AF (AF (Ap hb1 none) hg2 (fun b e => by cases e; omega)) (Ap hb3 none) (fun b e => by cases e)) hg4 (fun b e => by cases e; omega)
 have hB4 : Below w.heap.size w w4 := (Below.refl _ _).grown hw1 (Nat.le_refl _) (fun k e => by cases e)
 have hlow4 : Below n0 w0 w4 := hw.trans ⟨hB4.os,hB4.tape,hB4.output,hB4.size,fun i hi => hB4.block i (Nat.lt_of_lt_of_le hi hn0)⟩
 have hX : EX key n0 w0 w Inv C0 b w.heap.size C0 [start] w4 :=
  ⟨E.move C0 [start] w w4 hw h0 hlow4 hB4.size (fun k hk => hB4.block k (E.lt C0 _ w h0 k hk)),fun k hk => .inl hk,fun k hk _ => hB4.block k hk,hlow4,hB4.size,hb4,hm4,fun hc => by have := E.lt C0 _ w h0 b hc; omega,fun hc => by have := E.lt C0 _ w h0 _ hc; omega,by omega,Nat.le_refl _⟩
 clear hm1 hm2 hm4 hg2 hg4 hbb hb4 hB4 hlow4 hw1 hb1 hb3
 generalize hrr : w.heap.size = r at hX
 refine pl (.func (.func 73) #[] #[.pointer (some ⟨b,0,none⟩)]) (fun _ => by kernel_rfl)<|af G<|ai G<|?_
 have hall : ∀ k,∀ u ∈ AZ succ L start k,P u := DM succ E.start E.closed
 have hlen : ∀ k,(AZ succ L start k).length ≤ N := fun k => E.many _ (B4 succ L start k) (hall k)
 refine lp (σ := Nat × Option Addr × Nat) (fun q => [(0,.int .i64 (L : Nat)),(1,.int .i64 (bud : Nat)),(3,.func (.func kn) #[] caps.toArray),(8,.slice q.2.1 q.1 q.2.2),(10,.pointer (some ⟨b,0,none⟩)),(11,.func (.func 73) #[] #[.pointer (some ⟨b,0,none⟩)]),(12,.int .i64 (q.1 : Nat))])
  (fun q V => q.1 ≤ (AZ succ L start q.1).length ∧ ∃ C,EX key n0 w0 w Inv C0 b r C (AZ succ L start q.1) V ∧ Kii.R 22 V w.heap.size (fun k => ¬ C k) (.slice q.2.1 q.1 q.2.2) (Cg succ L start q.1)) (fun q => N - q.1) (0,none,0) ⟨rfl,rfl,rfl,rfl,rfl,rfl,rfl,rfl⟩ ⟨Nat.zero_le _,C0,hX,Kd.R_nil _ _ _ _ _⟩ ?_
 clear hX
 rintro ⟨k,A,c⟩ f V ⟨hkl,C,hX,hR⟩
 simp only at hkl hX hR
 have hlk := hlen k
 have hc0 : V.cell? ⟨b,0,none⟩ = some (.map (some r)) := (Ac hX.box 0).trans rfl
 refine mi G<|old G7 G ‹_›<|Kz Ds G hX.map ?_
 rw [Eh]
 refine olt G G<|cdd G (fun hlt0 => ?_) (fun hge0 => ?_)
 ·have hlt : k < (AZ succ L start k).length := Int.ofNat_lt.1 hlt0
  obtain ⟨s,hs⟩ : ∃ s,(AZ succ L start k)[k]? = some s := ⟨_,gE hlt⟩
  have hPs : P s := hall k s (List.mem_of_getElem? hs)
  refine mi G<|omk (Kd.int .i64) U22 I3 G G 0 (fun _ => rfl) (by omega) G (by decide) (by decide) ?_
  intro A1 c1 V1 hR1 hb1
  obtain ⟨g,_,hv,hgb,_,cells,hg⟩ := Kd.R_form hR1 (by simp; omega)
  injection hv with hv _ _
  subst hv
  have hX1 := hX.new E hn0 hb1
  have hRr1 : Kii.R 22 V1 w.heap.size (fun i => ¬ C i ∧ i ≠ g) (.slice A k c) (Cg succ L start k) := Kd.R_below (Kd.R_mono (Kd.R_bound hR) (fun i hi => ⟨hi.1,by have := hi.2.2.1; omega⟩)) hb1
  have hRw1 : (Kd.int .i64).R 3 V1 w.heap.size (fun k => ¬ C k) (.slice (some ⟨g,0,none⟩) L c1) (Ca succ (AZ succ L start k) s 0 ++ List.replicate (L - 0) 0) := by
   refine Kd.R_lower (Kd.R_mono (Kd.R_bound hR1) (fun i hi hC => ?_)) hX.sz
   have := E.lt C _ V hX.inv i hC
   have := hi.2.1
   omega
  refine asl G<|ms G<|oln U22 G<|mi G<|lp (σ := Nat) (fun x => [(0,.int .i64 (L : Nat)),(1,.int .i64 (bud : Nat)),(3,.func (.func kn) #[] caps.toArray),(8,.slice A k c),(10,.pointer (some ⟨b,0,none⟩)),(11,.func (.func 73) #[] #[.pointer (some ⟨b,0,none⟩)]),(12,.int .i64 (k : Nat)),(13,.slice (some ⟨g,0,none⟩) L c1),(28,.int .i64 L),(29,.int .i64 x)])
   (fun x V => x ≤ L ∧ ∃ C,EX key n0 w0 w Inv C0 b r C (BX succ (AZ succ L start k) s x) V ∧ Kii.R 22 V w.heap.size (fun i => ¬ C i ∧ i ≠ g) (.slice A k c) (Cg succ L start k) ∧ (Kd.int .i64).R 3 V w.heap.size (fun k => ¬ C k) (.slice (some ⟨g,0,none⟩) L c1) (Ca succ (AZ succ L start k) s x ++ List.replicate (L - x) 0)) (fun x => L - x) 0 ⟨rfl,rfl,rfl,rfl,rfl,rfl,rfl,rfl,rfl,rfl,rfl⟩ ⟨Nat.zero_le _,C,hX1,hRr1,hRw1⟩ ?_
  clear hX1 hRr1 hRw1 hR1 hb1 hg hc0 hR hX
  rintro x f V2 ⟨hx,C2,hX,hR,hRw⟩
  have hallx : ∀ y,y ≤ L → ∀ u ∈ BX succ (AZ succ L start k) s y,P u := El succ (hall k) (fun y hy => E.closed s y hPs hy)
  have hndx : ∀ y,(BX succ (AZ succ L start k) s y).Nodup := Dj succ (B4 succ L start k) s
  refine olt G G<|cdd G (fun hlt1 => ?_) (fun hge1 => ?_)
  ·have hxl : x < L := Int.ofNat_lt.1 hlt1
   have hsx : (BX succ (AZ succ L start k) s x)[k]? = some s := I6 (Gp succ _ s x) hs
   have hx8 : x < 2 ^ (IntKind.bits .u8 - 1) := by show x < 128; omega
   refine mi G<|ai G<|ms G<|mi G<|mf G<|mf G<|mi G<|mi G<|CU UI3 UI5 G (by first | assumption | decide | omega)<|?_
   refine cl E.callable caps G ((E.next C2 _ k s x V2 hX.low hX.inv hsx hxl (hallx x (by omega)) (E.many _ (hndx x) (hallx x (by omega)))).mono ?_)
   rintro e V3 ⟨rfl,hlow3,hsz3,hsame,C3,hC3,hinv3⟩
   refine ⟨_,rfl,?_⟩
   have hbox3 : V3.heap[b]? = some (.cells #[.map (some r)] 118 (0,0)) := (hsame b (Am hX.box) hX.nb).trans hX.box
   have hmap3 : MapIs V3 r (nums key (BX succ (AZ succ L start k) s x)) := hX.map.same (hsame r hX.map.lt hX.nr)
   have hPt : P (succ s x) := E.closed s x hPs hxl
   have hR3 := R_clo2 hR hsame hC3
   have hRw3 := R_clo hRw hsame hC3
   have hblt := Am hX.box
   have hrlt := hX.map.lt
   refine cl C73 [.pointer (some ⟨b,0,none⟩)] G ((visit73 key _ (succ s x) b r V3 hbox3 hmap3 (D0 key E.inj hPt (hallx x (by omega)))).mono ?_)
   rintro e V4 ⟨rfl,hm4,hg4⟩
   refine ⟨_,rfl,?_⟩
   have hnr3 : ¬ C3 r := fun h => by rcases hC3 r h with h | h; exact hX.nr h; omega
   have hnb3 : ¬ C3 b := fun h => by rcases hC3 b h with h | h; exact hX.nb h; omega
   have hhr := hX.hr
   have hhb := hX.hb
   have hXs := hX.sz
   have hlow4 : Below n0 w0 V4 := hlow3.grown hg4 (Nat.le_trans hn0 (Nat.le_trans hXs hsz3)) (fun k e => by cases e; omega)
   have hX4 : EX key n0 w0 w Inv C0 b r C3 (BX succ (AZ succ L start k) s (x + 1)) V4 :=
    ⟨E.move C3 _ V3 V4 hlow3 hinv3 hlow4 hg4.size (fun k hk => hg4.block k (E.lt C3 _ V3 hinv3 k hk) (fun e => by injection e with e; subst e; exact hnr3 hk)),
     fun k hk => by
      rcases hC3 k hk with h | h
      ·exact hX.sub k h
      ·right; omega,
     fun k hk hc => by
      have hn2 : ¬ C2 k := fun h => by
       rcases hX.sub k h with h | h
       ·exact hc h
       ·omega
      exact (hg4.block k (by omega) (fun e => by injection e with e; omega)).trans ((hsame k (by omega) hn2).trans (hX.old k hk hc)),
     hlow4,Nat.le_trans (Nat.le_trans hXs hsz3) hg4.size,hmap3.cells hg4 hbox3,hm4,hnb3,hnr3,hhb,hhr⟩
   have hR4 := hmap3.row hg4 hR3
   have hRw4 := hmap3.row hg4 hRw3
   have hllen : (Ca succ (AZ succ L start k) s x ++ List.replicate (L - x) (0 : Int)).length = L := by rw [List.length_append,BY,List.length_replicate]; omega
   refine AD U22 Z3 G G (by first | assumption | omega)<|?_
   refine CG (enc := fun x => Value.int .i64 x) (h1 := fun _ => rfl) (z := (((BE (BX succ (AZ succ L start k) s x) (succ s x)).idxOf (succ s x) : Nat) : Int)) (k := x) S3 hRw4 hxl G G ?_
   intro V5 hRw5 hg5
   have hX5 := hX4.row E hn0 hRw4 (Nat.le_refl _) (by decide) hg5
   have hR5 := Kd.R_grown hR4 hg5 (fun i hi e => hi.2 (by injection e))
   have hset : (Ca succ (AZ succ L start k) s x ++ List.replicate (L - x) (0 : Int)).set x (((BE (BX succ (AZ succ L start k) s x) (succ s x)).idxOf (succ s x) : Nat) : Int) = Ca succ (AZ succ L start k) s (x + 1) ++ List.replicate (L - (x + 1)) 0 := by
    rw [Hk,List.set_append_right _ _ (by rw [BY]; omega),BY,Nat.sub_self,show L - x = (L - (x + 1)) + 1 by omega,List.replicate_succ,List.set_cons_zero,List.append_assoc]
    rfl
   rw [hset] at hRw5
   have hc5 : V5.cell? ⟨b,0,none⟩ = some (.map (some r)) := (Ac hX5.box 0).trans rfl
   have hlx := E.many _ (hndx (x + 1)) (hallx (x + 1) (by omega))
   refine old G7 G ‹_›<|Kz Ds G hX5.map ?_
   rw [Eh]
   refine mi G<|ogt G G<|isf (by omega)<|?_
   refine cdf G<|oad G G (by first | assumption | omega)<|mi G<|?_
   exact ⟨x + 1,⟨rfl,rfl,rfl,rfl,rfl,rfl,rfl,rfl,rfl,rfl,rfl⟩,⟨hxl,C3,hX5,hR5,hRw5⟩,by omega⟩
  ·have hxL : x = L := by omega
   subst hxL
   rw [Nat.sub_self,List.replicate_zero,List.append_nil] at hRw
   have hrlen := DI succ x start k
   have hvlen := BY succ (AZ succ x start k) s x
   obtain ⟨gc,hgc⟩ := Kd.R_typed hRw g rfl
   have hp : Kii.M V2 w.heap.size (fun i => ¬ C2 i ∧ some i ≠ (Value.slice A k c).ownBlock) (Ca succ (AZ succ x start k) s x) [.slice (some ⟨g,0,none⟩) (Ca succ (AZ succ x start k) s x).length c1] := by
    refine Kd.M_row (Kd.R_mono (Kd.R_bound (by rw [hvlen]; exact hRw)) (fun i hi => ⟨hi.1,fun e => ?_⟩))
    obtain ⟨_,_,_,q,hq,cells,hcl⟩ := hi
    obtain ⟨cells',hcl'⟩ := Kd.R_typed hR i e.symm
    rcases List.mem_cons.1 hq with rfl | hq
    ·exact An hcl hcl' (by decide) rfl
    ·cases hq
   refine ms G<|ms G<|?_
   have hRr : Kii.R 22 V2 w.heap.size (fun i => ¬ C2 i) (.slice A k c) (Cg succ x start k) := Kd.R_mono hR (fun i hi => hi.1)
   rw [hvlen] at hp
   refine EJ (bytes := 24) (m := k) (c := c) (A := A) Kii (p := Ca succ (AZ succ x start k) s x) (cs := [.slice (some ⟨g,0,none⟩) x c1]) U27 CY G (by decide) (by decide) G (by simp) G (AJ U27 CY G G) hRr hp (fun i hi => hi) (fun i hi h => by have := E.lt C2 _ V2 hX.inv i h; omega) hX.sz (by rw [hrlen]; omega) ?_
   intro A2 c2 V3 hR3 hg3
   have hX3 := hX.row E hn0 hRr (Nat.le_refl _) (by decide) hg3
   rw [← Gn succ hs] at hR3 ⊢
   rw [DI] at hR3 ⊢
   rw [← Fu succ hs] at hX3
   have hmono := (E9 succ x start k).length_le
   refine asl G<|mi G<|oad G G (by first | assumption | omega)<|ai G<|?_
   exact ⟨(k + 1,A2,c2),⟨rfl,rfl,rfl,rfl,rfl,rfl,rfl,rfl⟩,⟨by dsimp only; omega,C2,hX3,hR3⟩,by dsimp only; omega⟩
 ·have hkk : (AZ succ L start k).length = k := by omega
  subst hrr
  refine ms G<|old G7 G ‹_›<|Kz Ds G hX.map ?_
  rw [Eh]
  refine mi G<|ole G G<|ist (by omega) ?_
  refine asl G<|ab G<|?_
  exact rt2 rfl rfl rfl ⟨A,c,k,C,rfl,hkk,hR,hX.inv,hX.sub,hX.old,hX.low⟩
end
def SetM (w : World) (base : Nat) (ok : Nat → Prop) (v : Value) (s : Nat) : Prop := ∃ A n c,v = .slice A n c ∧ n ≤ c ∧ ((s = 0 ∧ n = 0) ∨ (s ≠ 0 ∧ n = 1 ∧ ∃ g cs,A = some ⟨g,0,none⟩ ∧ base ≤ g ∧ ok g ∧ w.heap[g]? = some (.cells cs 49 (0,0)) ∧ cs[0]? = some (.int .u64 (s : Nat))))
theorem SetM.setB {w : World} {base : Nat} {ok : Nat → Prop} {v : Value} {s : Nat} (h : SetM w base ok v s) : SetB w base v s := by
 obtain ⟨A,n,c,rfl,hc,h' | ⟨h0,rfl,g,cs,rfl,hb,_,hh,h1⟩⟩ := h
 ·exact ⟨A,n,c,rfl,hc,.inl h'⟩
 ·exact ⟨_,1,c,rfl,hc,.inr ⟨h0,rfl,g,cs,rfl,hb,hh,h1⟩⟩
theorem SetB.setM {w : World} {base : Nat} {ok : Nat → Prop} {v : Value} {s : Nat} (h : SetB w base v s) (hok : ∀ g,base ≤ g → g < w.heap.size → ok g) : SetM w base ok v s := by
 obtain ⟨A,n,c,rfl,hc,h' | ⟨h0,rfl,g,cs,rfl,hb,hh,h1⟩⟩ := h
 ·exact ⟨A,n,c,rfl,hc,.inl h'⟩
 ·exact ⟨_,1,c,rfl,hc,.inr ⟨h0,rfl,g,cs,rfl,hb,hok g hb (Am hh),hh,h1⟩⟩
def kset : Kd Nat where
 sz := 1
 E := [49]
 K := fun w s cs => ∃ v,cs = [v] ∧ SetB w 0 v s
 M := fun w base ok s cs => ∃ v,cs = [v] ∧ SetM w base ok v s
 K_len := fun h => by obtain ⟨v,rfl,_⟩ := h; rfl
 K_one := fun h u hu => by
  obtain ⟨v,rfl,A,n,c,rfl,_⟩ := h
  rw [List.mem_singleton.1 hu]
  rfl
 K_below := fun hb h => by
  obtain ⟨v,rfl,h⟩ := h
  exact ⟨v,rfl,h.below hb⟩
 K_of_M := fun h => by
  obtain ⟨v,rfl,h⟩ := h
  exact ⟨v,rfl,h.setB.lower (Nat.zero_le _)⟩
 M_mono := fun hok h => by
  obtain ⟨v,rfl,A,n,c,rfl,hc,h' | ⟨h0,rfl,g,cs,rfl,hb,hg,hh,h1⟩⟩ := h
  ·exact ⟨_,rfl,A,n,c,rfl,hc,.inl h'⟩
  ·exact ⟨_,rfl,_,1,c,rfl,hc,.inr ⟨h0,rfl,g,cs,rfl,hb,hok g hg,hh,h1⟩⟩
 M_bound := fun h => by
  obtain ⟨v,rfl,A,n,c,rfl,hc,h' | ⟨h0,rfl,g,cs,rfl,hb,hg,hh,h1⟩⟩ := h
  ·exact ⟨_,rfl,A,n,c,rfl,hc,.inl h'⟩
  ·exact ⟨_,rfl,_,1,c,rfl,hc,.inr ⟨h0,rfl,g,cs,rfl,hb,⟨hg,hb,Am hh,49,by simp,cs,hh⟩,hh,h1⟩⟩
 M_move := fun hm h => by
  obtain ⟨v,rfl,A,n,c,rfl,hc,h' | ⟨h0,rfl,g,cs,rfl,hb,hg,hh,h1⟩⟩ := h
  ·exact ⟨_,rfl,A,n,c,rfl,hc,.inl h'⟩
  ·exact ⟨_,rfl,_,1,c,rfl,hc,.inr ⟨h0,rfl,g,cs,rfl,hb,hg,(hm g hg).trans hh,h1⟩⟩
 M_lower := fun hb' h => by
  obtain ⟨v,rfl,A,n,c,rfl,hc,h' | ⟨h0,rfl,g,cs,rfl,hb,hg,hh,h1⟩⟩ := h
  ·exact ⟨_,rfl,A,n,c,rfl,hc,.inl h'⟩
  ·exact ⟨_,rfl,_,1,c,rfl,hc,.inr ⟨h0,rfl,g,cs,rfl,Nat.le_trans hb' hb,hg,hh,h1⟩⟩
theorem Fd {w : World} {A : Option Addr} {n : Nat} {xs : List Nat} (h : kset.C w A n xs) {k s : Nat} (hk : xs[k]? = some s) : ∃ ad v,A = some ad ∧ SetB w 0 v s ∧ w.cell? (ad.add (k * 1)) = some v := by
 obtain ⟨ad,c,rfl,_,⟨v,rfl,hv⟩,hc⟩ := DG h hk
 exact ⟨ad,v,rfl,hv,hc 0 v rfl⟩
def Dk (o : List Nat) : List (ByteArray × Value) := o.map fun s => (strOfNums (BR s),.bool true)
theorem Ht : ∀ s t : Nat,s < 32 → t < 32 → strOfNums (BR s) = strOfNums (BR t) → s = t := by
 have h : ∀ s t : Fin 32,(BR s.1).map (fun n => UInt8.ofNat n.toNat) = (BR t.1).map (fun n => UInt8.ofNat n.toNat) → s = t := by decide
 intro s t hs ht e
 have e2 : (strOfNums (BR s)).data.toList = (strOfNums (BR t)).data.toList := by rw [e]
 rw [strOfNums_data,strOfNums_data] at e2
 have := h ⟨s,hs⟩ ⟨t,ht⟩ e2
 injection this
theorem GN {t : Nat} (ht : t < 32) : ∀ (o : List Nat),(∀ u ∈ o,u < 32) → BK (Dk o) (strOfNums (BR t)) = if t ∈ o then some (.bool true) else none
 | [],_ => rfl
 | u :: o,h => by
  have ih := GN ht o (fun v hv => h v (List.mem_cons_of_mem _ hv))
  by_cases e : u = t
  ·subst e
   simp [BK,Dk,(MapKept.bytes_beq (strOfNums (BR u)) (strOfNums (BR u))).2 rfl]
  ·have hk : (strOfNums (BR u) == strOfNums (BR t)) = false := by
    cases hh : strOfNums (BR u) == strOfNums (BR t) with
    | false => rfl
    | true => exact absurd (Ht u t (h u (List.mem_cons_self ..)) ht ((MapKept.bytes_beq _ _).1 hh)) e
   have hne : ¬ t = u := fun h => e h.symm
   have : BK (Dk (u :: o)) (strOfNums (BR t)) = BK (Dk o) (strOfNums (BR t)) := by simp [BK,Dk,List.find?_cons,hk]
   rw [this,ih]
   simp [hne]
theorem LB : Tryz.prog.underlying 86 = some (.map 9 4) := by kernel_rfl
theorem zv4 (w : World) : (zeroValue 4).run Tryz.prog w = .ok (.bool false) w := by kernel_rfl
structure InvD (n : Na) (SA FA EA : Option Addr) (cs cf ce : Nat) (n0 bn ba bk rk : Nat) (C : Nat → Prop) (o : List Nat) (V : World) : Prop where
 bnd : ∀ k,C k → k < V.heap.size
 nblk : V.heap[bn]? = some (.cells (n.vals SA FA EA cs cf ce).toArray 25 (0,0))
 arow : ∃ A c,V.heap[ba]? = some (.cells #[.slice A o.length c] 84 (0,0)) ∧ kset.R 82 V n0 C (.slice A o.length c) o
 kblk : V.heap[bk]? = some (.cells #[.map (some rk)] 86 (0,0))
 kmap : MapIs V rk (Dk o)
 cn : C bn
 ca : C ba
 ck : C bk
 cr : C rk
 ba0 : n0 ≤ ba
 rk0 : n0 ≤ rk
 glob : Glob V
theorem InvD.move {n : Na} {SA FA EA : Option Addr} {cs cf ce n0 bn ba bk rk : Nat} {w0 : World} (h2 : 2 < n0) (hG0 : Glob w0) {C : Nat → Prop} {o : List Nat} {V V' : World} (h : InvD n SA FA EA cs cf ce n0 bn ba bk rk C o V) (hb : Below n0 w0 V') (hs : V.heap.size ≤ V'.heap.size) (hm : ∀ k,C k → V'.heap[k]? = V.heap[k]?) : InvD n SA FA EA cs cf ce n0 bn ba bk rk C o V' := by
 obtain ⟨A,c,ha,hr⟩ := h.arow
 exact ⟨fun k hk => Nat.lt_of_lt_of_le (h.bnd k hk) hs,(hm bn h.cn).trans h.nblk,⟨A,c,(hm ba h.ca).trans ha,Kd.R_step hr (fun k hk _ => hm k hk)⟩,(hm bk h.ck).trans h.kblk,h.kmap.same (hm rk h.cr),h.cn,h.ca,h.ck,h.cr,h.ba0,h.rk0,hG0.low hb h2⟩
theorem next33 (n : Na) (hn : n.Ok) (hn5 : n.states ≤ 5) (SA FA EA : Option Addr) (cs cf ce bn ba bk rk : Nat) (w0 : World) (h2 : 2 < w0.heap.size) (hG0 : Glob w0) (hr : NR n w0 SA FA EA) (C : Nat → Prop) (o : List Nat) (k s x : Nat) (V : World) (hB : Below w0.heap.size w0 V)
  (hI : InvD n SA FA EA cs cf ce w0.heap.size bn ba bk rk C o V) (hk : o[k]? = some s) (hx : x < 2 ^ n.vars) (hP : ∀ u ∈ o,u < 32) (ho : o.length ≤ 32) :
  Calls Tryz.prog 33 #[.int .i64 (k : Nat),.int .u8 (x : Nat),.pointer (some ⟨bn,0,none⟩),.pointer (some ⟨ba,0,none⟩),.pointer (some ⟨bk,0,none⟩)] V fun e V' =>
   e = .returned (.string (strOfNums (BR (n.step s x)))) ∧ Below w0.heap.size w0 V' ∧ V.heap.size ≤ V'.heap.size ∧ (∀ k,k < V.heap.size → ¬ C k → V'.heap[k]? = V.heap[k]?) ∧ ∃ C' : Nat → Prop,(∀ k,C' k → C k ∨ V.heap.size ≤ k) ∧ InvD n SA FA EA cs cf ce w0.heap.size bn ba bk rk C' (BE o (n.step s x)) V' := by
 have hs32 := hP s (List.mem_of_getElem? hk)
 have ht32 : n.step s x < 32 := Nat.lt_of_lt_of_le (Na.step_lt hn s x) (Nat.pow_le_pow_right (n := 2) (by decide) hn5)
 have hBs := hB.size
 obtain ⟨A,c,ha,hR⟩ := hI.arow
 obtain ⟨ad,v,rfl,hsv,hcell⟩ := Fd (Kd.R_reads' hR).2.2 hk
 have hkl := (List.getElem?_eq_some_iff.1 hk).1
 obtain ⟨As,ms_,cs',rfl,_,_⟩ := id hsv
 have hca : V.cell? ⟨ba,0,none⟩ = some (.slice (some ad) o.length c) := (Ac ha 0).trans rfl
 refine enter 34 Tryz.func33 G G _ (by simp) ?_
 refine ast G<|Bu mixed (fun V => V.heap[bn]? = some (.cells (n.vals SA FA EA cs cf ce).toArray 25 (0,0)) ∧ V.cell? ⟨ba,0,none⟩ = some (.slice (some ad) o.length c) ∧ V.cell? (ad.add (k * 1)) = some (.slice As ms_ cs')) ?_
 intro V1 hb1 _ _
 have hS := (⟨Ab hI.nblk hb1,Ae hb1 hca,Ae hb1 hcell⟩ : V1.heap[bn]? = some (.cells (n.vals SA FA EA cs cf ce).toArray 25 (0,0)) ∧ V1.cell? ⟨ba,0,none⟩ = some (.slice (some ad) o.length c) ∧ V1.cell? (ad.add (k * 1)) = some (.slice As ms_ cs'))
 refine Aj 0 G (by kernel_rfl) (fun _ _ _ h => h) G (fun v hv => Bs (vs := n.vals SA FA EA cs cf ce) G25 S25 G (Ak hv.1)) hS<|Aj 1 G (by kernel_rfl) (fun _ _ _ h => h) G (fun v hv => Ai G84 G hv.2.1) hS<|Aj 2 G (by kernel_rfl) (fun _ _ _ h => h) G (fun v _ => mi_ G v) hS<|Aj 3 G (by kernel_rfl) (fun _ _ _ h => h) G (fun v _ => AU U84 Z82 G G (by first | assumption | omega) v) hS<|Aj 4 G (by kernel_rfl) (fun _ _ _ h => h) G (fun v hv => Ai G82 G hv.2.2) hS<|Aj 5 G (by kernel_rfl) (fun _ _ _ h => h) G (fun v _ => mi_ G v) hS<|?_
 have hB1 := Ad hB hb1
 refine AA 6 (by kernel_rfl) G<|cl C34 [] G ((J5 n hn SA FA EA cs cf ce x s 0 _ V1 (hr.below hB1) hx (by omega) (hsv.below hb1)).mono ?_)
 rintro e V2 ⟨r,rfl,hr2,hb2⟩
 obtain ⟨A2,m2,c2,rfl,_,_⟩ := id hr2
 have hS := (⟨Ab hS.1 hb2,Ae hb2 hS.2.1,Ae hb2 hS.2.2⟩ : V2.heap[bn]? = some (.cells (n.vals SA FA EA cs cf ce).toArray 25 (0,0)) ∧ V2.cell? ⟨ba,0,none⟩ = some (.slice (some ad) o.length c) ∧ V2.cell? (ad.add (k * 1)) = some (.slice As ms_ cs'))
 refine ⟨_,rfl,hS,?_⟩
 refine Aj 7 G (by kernel_rfl) (fun _ _ _ h => h) G (fun v _ => mv_ G v) hS<|Aj 8 G (by kernel_rfl) (fun _ _ _ h => h) G (fun v _ => Ef G G v) hS<|Aj 9 G (by kernel_rfl) (fun _ _ _ h => h) G (fun v _ => Ef G G v) hS<|Aj 10 G (by kernel_rfl) (fun _ _ _ h => h) G (fun v _ => K7 G v) hS<|Aj 11 G (by kernel_rfl) (fun _ _ _ h => h) G (fun v _ => ai_ G v) hS<|AY (by kernel_rfl) ?_
 have hB2 := Ad hB1 hb2
 have hb12 := Ad hb1 hb2
 refine ms G<|cl C32 [] G ((KH _ (n.step s x) V1.heap.size V2 hr2 (by omega) (hI.glob.below hb12)).mono ?_)
 rintro e V3 ⟨rfl,hb3⟩
 refine ⟨_,rfl,?_⟩
 have hB3 := Ad hB2 hb3
 have hb13 := Ad hb12 hb3
 have hr3 := hr2.below hb3
 have hk3 := hI.kmap.below hb13
 have hck : V3.cell? ⟨bk,0,none⟩ = some (.map (some rk)) := (Ac (Ab hI.kblk hb13) 0).trans rfl
 have hfk := GN ht32 o hP
 refine ast G<|old G86 G ‹_›<|mt G<|olk1 (z := .bool false) US9 LB G G hk3 (zv4 V3) ?_
 rw [hfk]
 have hI3 : InvD n SA FA EA cs cf ce w0.heap.size bn ba bk rk C o V3 := hI.move h2 hG0 hB3 hb13.size (fun k hk => hb13.block k (hI.bnd k hk))
 by_cases hmem : n.step s x ∈ o
 ·rw [if_pos hmem]
  have e : BE o (n.step s x) = o := by unfold BE; rw [if_pos hmem]
  rw [e]
  refine ont G<|cdf G<|mt G<|ast G<|?_
  exact rt1 rfl rfl ⟨rfl,hB3,hb13.size,fun k hk _ => hb13.block k hk,C,fun k hk => .inl hk,hI3⟩
 ·rw [if_neg hmem]
  have e : BE o (n.step s x) = o ++ [n.step s x] := by unfold BE; rw [if_neg hmem]
  rw [e]
  refine ont G<|cdt G<|old G86 G ‹_›<|mt G<|opm US9 LB G G G hk3 (by rw [hfk,if_neg hmem]) ?_
  intro V4 hk4 hg4
  have hI4 : ∃ A c,V4.heap[ba]? = some (.cells #[.slice A o.length c] 84 (0,0)) ∧ kset.R 82 V4 w0.heap.size C (.slice A o.length c) o := by
   obtain ⟨A,c,h1,h2⟩ := hI3.arow
   exact ⟨A,c,hk3.cells hg4 h1,hk3.row hg4 h2⟩
  obtain ⟨A4,c4,ha4,hR4⟩ := hI4
  have hca4 : V4.cell? ⟨ba,0,none⟩ = some (.slice A4 o.length c4) := (Ac ha4 0).trans rfl
  have hr4 := hk3.set hg4 hr3
  have hs13 := hb13.size
  have hs3 := hB3.size
  have hg4s := hg4.size
  have hs1 := hb1.size
  have hB4 := hB3.grown hg4 hB3.size (fun k e => by cases e; exact hI.rk0)
  refine old G84 G ‹_›<|ms G<|?_
  have hp : kset.M V4 w0.heap.size (fun i => (C i ∨ V.heap.size ≤ i) ∧ some i ≠ (Value.slice A4 o.length c4).ownBlock) (n.step s x) [.slice A2 m2 c2] := by
   exact kset.M_lower (by omega : w0.heap.size ≤ V1.heap.size) ⟨_,rfl,hr4.setM (fun g hg hlt => ⟨.inr (by omega),fun e => by have := hI.bnd g (hR4.1 g e.symm); omega⟩)⟩
  have hR4' : kset.R 82 V4 w0.heap.size (fun i => C i ∨ V.heap.size ≤ i) (.slice A4 o.length c4) o := Kd.R_mono hR4 (fun k hk => .inl hk)
  refine EJ (bytes := 24) (m := o.length) (c := c4) (A := A4) kset (p := n.step s x) (cs := [.slice A2 m2 c2]) U84 I82 G (by decide) (by decide) G (by simp) G (AJ U84 I82 G G) hR4' hp (fun i hi => hi) (fun i hi => .inr (by omega)) hB4.size (by omega) ?_
  intro A5 c5 V5 hR5 hg5
  have ha5 : V5.heap[ba]? = some (.cells [.slice A4 o.length c4].toArray 84 (0,0)) := (hg5.block ba (Am ha4) (fun e => by
   obtain ⟨cells,hc⟩ := Kd.R_typed hR4 ba e.symm
   exact An ha4 hc (by decide) rfl)).trans ha4
  refine Bc (v := .slice A5 (o ++ [n.step s x]).length c5) (cs := [.slice A4 o.length c4]) (i := 0) S84 G G G ha5 (by simp) ?_
  intro V6 ha6 hg6
  refine mt G<|ast G<|?_
  have hs45 := hg5.size
  have hs56 := hg6.size
  have hB5 := hB4.grown hg5 hB4.size (fun k hk => Kd.R_base hR4 k hk)
  have hB6 := hB5.grown hg6 hB5.size (fun k e => by cases e; exact hI.ba0)
  have hsame : ∀ k,k < V.heap.size → ¬ C k → V6.heap[k]? = V.heap[k]? := fun k hk hc => by
   have h1 := hb13.block k hk
   have h2 := hg4.block k (by omega) (fun e => by injection e with e; subst e; exact hc hI.cr)
   have h3 := hg5.block k (by omega) (fun e => hc (hR4.1 k e.symm))
   have h4 := hg6.block k (by omega) (fun e => by injection e with e; subst e; exact hc hI.ca)
   rw [h4,h3,h2,h1]
  have hkb : V6.heap[bk]? = some (.cells #[.map (some rk)] 86 (0,0)) := by
   have h3 := hk3.cells hg4 hI3.kblk
   have h5 : V5.heap[bk]? = some (.cells #[.map (some rk)] 86 (0,0)) := (hg5.block bk (Am h3) (fun e => by
    obtain ⟨cells,hc⟩ := Kd.R_typed hR4 bk e.symm
    exact An h3 hc (by decide) rfl)).trans h3
   exact (hg6.block bk (Am h5) (fun e => An h5 ha5 (by decide) (by injection e))).trans h5
  have hnb : V6.heap[bn]? = some (.cells (n.vals SA FA EA cs cf ce).toArray 25 (0,0)) := by
   have h3 := hk3.cells hg4 hI3.nblk
   have h5 : V5.heap[bn]? = some (.cells (n.vals SA FA EA cs cf ce).toArray 25 (0,0)) := (hg5.block bn (Am h3) (fun e => by
    obtain ⟨cells,hc⟩ := Kd.R_typed hR4 bn e.symm
    exact An h3 hc (by decide) rfl)).trans h3
   exact (hg6.block bn (Am h5) (fun e => An h5 ha5 (by decide) (by injection e))).trans h5
  have hkm : MapIs V6 rk (Dk (o ++ [n.step s x])) := by
   have h5 : MapIs V5 rk (Dk o ++ [(strOfNums (BR (n.step s x)),.bool true)]) := hk4.grown hg5 (fun e => by
    obtain ⟨cells,hc⟩ := Kd.R_typed hR4 rk e.symm
    exact hk4.ne hc rfl)
   have : Dk (o ++ [n.step s x]) = Dk o ++ [(strOfNums (BR (n.step s x)),.bool true)] := by simp [Dk]
   rw [this]
   exact h5.keep hg6 ha5
  refine rt1 rfl rfl ⟨rfl,hB6,by omega,hsame,fun i => C i ∨ (V.heap.size ≤ i ∧ i < V6.heap.size),fun i hi => hi.imp id (fun h => h.1),⟨fun i hi => ?_,hnb,⟨A5,c5,ha6,?_⟩,hkb,hkm,.inl hI.cn,.inl hI.ca,.inl hI.ck,.inl hI.cr,hI.ba0,hI.rk0,hG0.low hB6 h2⟩⟩
  ·rcases hi with h | h
   ·have := hI.bnd i h; omega
   ·exact h.2
  ·refine Kd.R_mono (Kd.R_bound (Ah hR5 ha5 (by decide) hg6)) (fun i hi => ?_)
   rcases hi.1 with h | h
   ·exact .inl h
   ·exact .inr ⟨h,hi.2.2.1⟩
theorem CR {w : Nat} (h : ¬ w = 0) : w &&& (w - 1) < w := Nat.lt_of_le_of_lt Nat.and_le_right (by omega)
def bitsW (w : Nat) : List Int := if h : w = 0 then [] else ((Lib.ctz 64 w : Nat) : Int) :: bitsW (w &&& (w - 1))
 termination_by w
 decreasing_by exact CR h
theorem CL : bitsW 0 = [] := by rw [bitsW,dif_pos rfl]
theorem EQ {w : Nat} (h : ¬ w = 0) : bitsW w = ((Lib.ctz 64 w : Nat) : Int) :: bitsW (w &&& (w - 1)) := by rw [bitsW,dif_neg h]
theorem GS : ∀ f u,Lib.ctzFrom f u ≤ f
 | 0,_ => Nat.le_refl _
 | f + 1,u => by
  unfold Lib.ctzFrom
  split
  ·omega
  ·have := GS f (u / 2); omega
theorem ctz_le (f u : Nat) : Lib.ctz f u ≤ f := by
 unfold Lib.ctz
 split
 ·exact Nat.le_refl _
 ·exact GS f u
theorem elems115 (s bs c1 b : Nat) (v : Value) (wa w0 : World) (hs : s < 4611686018427387904) (hG : Glob wa) (hba : Below wa.heap.size wa w0) (hv : SetB wa bs v s) (hlt : wa.heap.size ≤ b) (h1 : w0.heap[c1]? = some (.cells #[v] 82 (0,0))) (hb1 : c1 ≠ b) (mm : Nat) :
  SeqStopsK Fence.wide mm Tryz.prog 115 #[.pointer (some ⟨c1,0,none⟩)] (fun e : Int => #[.int .i64 e]) (KpO w0.heap.size b) (fun xs => xs = bitsW s) (fun _ => True) ((bitsW s).length + 1) w0 := by
 intro l J Jx W hW hJ hJx hY h0
 obtain ⟨A,m,c,rfl,hmc,hor⟩ := hv
 refine H3 31 Tryz.func115 G G [.func (.yield l) #[] #[],.pointer (some ⟨c1,0,none⟩)] (by simp) ?_ mm
 have hl1 := Am h1
 have hk0 : KpO w0.heap.size b w0 W := KpO.low hW
 have hm1 : m ≤ 1 := by rcases hor with h | h <;> omega
 have hc1 : W.cell? ⟨c1,0,none⟩ = some (.slice A m c) := (Ac (hk0.cells h1 hl1 hb1) 0).trans rfl
 have hmin : (if (64 : Int) < (m : Int) then (64 : Int) else (m : Int)) = ((m : Nat) : Int) := by omega
 refine oj (fun _ _ h => h)<|old G82 G ‹_›<|oj (fun _ _ h => h)<|old G82 G ‹_›<|oj (fun _ _ h => h)<|oln U82 G<|oj (fun _ _ h => h)<|omn G G<|oj (fun _ _ h => h) (osh (h := m) U82 Z49 G (congrArg (Value.int .i64) hmin) hmc ?_)
 refine oj (fun _ _ h => h)<|oln U82 G<|oj (fun _ _ h => h)<|mi G<|lpj (σ := Nat × List Int) (fun q => [(0,.func (.yield l) #[] #[]),(1,.pointer (some ⟨c1,0,none⟩)),(9,.slice A m c),(10,.int .i64 m),(11,.int .i64 q.1)])
  (fun q V => KpO w0.heap.size b w0 V ∧ w0.heap.size ≤ V.heap.size ∧ W.heap.size ≤ V.heap.size ∧ q.1 ≤ m ∧ J q.2 V ∧ q.2 = (if q.1 = 0 then [] else bitsW s)) (fun q => m - q.1) (0,[]) ⟨rfl,rfl,rfl,rfl,rfl,rfl⟩ ⟨hk0,hW.size,Nat.le_refl _,Nat.zero_le _,h0,rfl⟩ ?_
 clear hc1 hk0
 rintro ⟨k,pre⟩ f V ⟨hK,hVs,hWV,hk,hJp,hpre⟩
 simp only at hk hJp hpre
 refine oj (fun _ _ h => h)<|olt G G<|cdd G (fun h => ?_) (fun h => ?_)
 ·have hkl : k < m := Int.ofNat_lt.1 h
  have hk0 : k = 0 := by omega
  rw [if_pos hk0] at hpre
  subst hk0 hpre
  rcases hor with ⟨_,h0'⟩ | ⟨hs0,hm1',g,cs,rfl,hbg,hg,hcs⟩
  ·omega
  ·subst hm1'
   have hcell : V.cell? ((⟨g,0,none⟩ : Addr).add (0 * 1)) = some (.int .u64 (s : Nat)) := hK.cell hba hlt (by rw [Nat.zero_mul,BF,Ac hg]; exact hcs)
   refine oj (fun _ _ h => h)<|mi G<|oj (fun _ _ h => h)<|AD U82 Z49 G G (by first | assumption | omega)<|oj (fun _ _ h => h)<|old G49 G ‹_›<|oj (fun _ _ h => h)<|ai G<|oj (fun _ _ h => h)<|ai G<|?_
   refine lpj (σ := Nat × List Int) (fun q => [(0,.func (.yield l) #[] #[]),(1,.pointer (some ⟨c1,0,none⟩)),(3,.int .i64 (0 : Nat)),(4,.int .u64 (q.1 : Nat)),(9,.slice (some ⟨g,0,none⟩) 1 c),(10,.int .i64 (1 : Nat)),(11,.int .i64 (0 : Nat))])
    (fun q V => KpO w0.heap.size b w0 V ∧ w0.heap.size ≤ V.heap.size ∧ W.heap.size ≤ V.heap.size ∧ q.1 ≤ s ∧ J q.2 V ∧ q.2 ++ bitsW q.1 = bitsW s) (fun q => q.1) (s,[]) ⟨rfl,rfl,rfl,rfl,rfl,rfl,rfl,rfl⟩ ⟨hK,hVs,hWV,Nat.le_refl _,hJp,rfl⟩ ?_
   clear hK hVs hWV hJp hcell
   rintro ⟨u,pre⟩ f V ⟨hK,hVs,hWV,hus,hJp,hpre⟩
   simp only at hus hJp hpre
   refine oj (fun _ _ h => h)<|mi G<|oj (fun _ _ h => h) (one G G ?_)
   refine cdd G (fun hne => ?_) (fun heq => ?_)
   ·have hne : ¬ u = 0 := fun e => hne (by rw [e]; rfl)
    have hT : TabAt 0 Lib.deBruijn64tab V := fun j hj => hK.cell hba hlt (hG.bru j hj)
    rw [EQ hne] at hpre
    refine oj (fun _ _ h => h)<|mf G<|oj (fun _ _ h => h)<|mi G<|oj (fun _ _ h => h)<|oml G G (by first | assumption | omega)<|oj (fun _ _ h => h)<|mi G<|?_
    refine oj (fun _ _ h => h) (cl Md [] G ((Tryz.bits_TrailingZeros64 u (by omega) V (fun _ => hT)).mono ?_))
    rintro e' V3 ⟨rfl,rfl⟩
    refine ⟨_,rfl,?_⟩
    have hu63 : u < 2 ^ (IntKind.bits .u64 - 1) := Nat.lt_of_le_of_lt hus (Nat.lt_trans hs (by decide))
    have hctz := ctz_le 64 u
    have hbd : -9223372036854775808 ≤ 64 * ((0 : Nat) : Int) + ((Lib.ctz 64 u : Nat) : Int) ∧ 64 * ((0 : Nat) : Int) + ((Lib.ctz 64 u : Nat) : Int) ≤ 9223372036854775807 := by omega
    have hel : (64 * ((0 : Nat) : Int) + ((Lib.ctz 64 u : Nat) : Int)) = ((Lib.ctz 64 u : Nat) : Int) := by omega
    refine oj (fun _ _ h => h)<|oad G G (by first | assumption | omega)<|?_
    refine HS (l := l) G (fun m1 => ?_)
    have hpl : pre.length < (bitsW s).length + 1 := by rw [← hpre,List.length_append]; omega
    refine YieldAt.mono (Eo (hY pre (64 * ((0 : Nat) : Int) + ((Lib.ctz 64 u : Nat) : Int)) V3 hJp hpl)) ?_
    rintro e' V4 (⟨rfl,hJ4,hk4⟩ | ⟨rfl,hJx⟩)
    ·refine ⟨_,rfl,?_⟩
     have hs4 := hk4.1
     refine oj (fun _ _ h => h)<|ont G<|cdf G<|oj (fun _ _ h => h)<|mi G<|oj (fun _ _ h => h)<|mi G<|oj (fun _ _ h => h) (Kf (a := u) (b := 1) G G (by omega) hu63 ?_)
     refine oj (fun _ _ h => h) (oan (a := u) (b := u - 1) G G hu63 (Nat.lt_of_le_of_lt (Nat.sub_le _ _) hu63) ?_)
     refine oj (fun _ _ h => h)<|ai G<|⟨(u &&& (u - 1),pre ++ [64 * ((0 : Nat) : Int) + ((Lib.ctz 64 u : Nat) : Int)]),⟨rfl,rfl,rfl,rfl,rfl,rfl,rfl,rfl⟩,⟨hK.trans hk4,by omega,by omega,Nat.le_trans (Nat.le_of_lt (CR hne)) hus,hJ4,?_⟩,CR hne⟩
     show (pre ++ [64 * ((0 : Nat) : Int) + ((Lib.ctz 64 u : Nat) : Int)]) ++ bitsW (u &&& (u - 1)) = bitsW s
     rw [hel,← hpre]
     simp
    ·refine ⟨_,rfl,?_⟩
     refine oj (fun _ _ h => h)<|ont G<|cdt G ?_
     exact rt0 rfl ⟨⟨_,rfl⟩,.inr ⟨_,trivial,hJx⟩⟩
   ·have hz : u = 0 := by
     simp only [ne_eq,Decidable.not_not] at heq
     exact_mod_cast heq
    subst hz
    rw [CL,List.append_nil] at hpre
    refine oj (fun _ _ h => h)<|oad G G (by first | assumption | omega)<|oj (fun _ _ h => h)<|mi G<|?_
    exact ⟨(1,pre),⟨rfl,rfl,rfl,rfl,rfl,rfl⟩,⟨hK,hVs,hWV,Nat.le_refl _,hJp,hpre⟩,Nat.zero_lt_one⟩
 ·refine rt0 G ⟨⟨_,rfl⟩,.inl ⟨pre,?_,hJp⟩⟩
  show pre = bitsW s
  rw [hpre]
  rcases hor with ⟨rfl,rfl⟩ | ⟨hs0,rfl,_⟩
  ·rw [if_pos (by omega),CL]
  ·rw [if_neg (by omega)]
theorem HT {α β : Type} {d : Kd α} {e B base : Nat} {ok : Nat → Prop} {v : Value} {xs : List α} : OwnFrom B (fun (_ : β) V => d.R e V base ok v xs) := fun _ V V' row h hg hr => by
 refine Kd.R_mono (Kd.R_move (Kd.R_bound h) (fun k hk => hg.block k hk.2.2.1 (fun he => ?_))) (fun _ hk => hk.1)
 obtain ⟨_,_,_,q,_,cells,hc⟩ := hk
 obtain ⟨_,o,ho,hoc⟩ := hr k he.symm
 rw [hc] at ho
 cases ho
 cases hoc
theorem Jn {α : Type} {d : Kd α} {e base D : Nat} {ok : Nat → Prop} {W : World} {v : Value} {xs : List α} (h : d.R e W base ok v xs) (hD : W.heap[D]? = some (.deferred (some []))) : d.R e (W.putObj D (.deferred none)) base ok v xs :=
 HT (β := Unit) (B := D) () W _ (some D) h (grownBy_putObj' W D _) (fun r e => by cases e; exact ⟨Nat.le_refl _,_,hD,rfl⟩)
theorem BO {α : Type} {d : Kd α} {e base B : Nat} {ok : Nat → Prop} {V V' : World} {v : Value} {xs : List α} (h : d.R e V base ok v xs) (hg : V.grownBy V' v.ownBlock) : KeepsFrom B V V' := ⟨hg.size,fun k o _ hk ho => (hg.block k (Array.getElem?_eq_some_iff.1 hk).1 (fun e => by
 obtain ⟨cells,hc⟩ := Kd.R_typed h k e.symm
 rw [hk] at hc
 cases hc
 cases ho)).trans hk⟩
theorem BG {B b t : Nat} {V V' : World} {cs : Array Value} (h : V.heap[b]? = some (.cells cs t (0,0))) (hg : V.grownBy V' (some b)) : KeepsFrom B V V' := ⟨hg.size,fun k o _ hk ho => (hg.block k (Array.getElem?_eq_some_iff.1 hk).1 (fun e => by
 injection e with e
 subst e
 rw [hk] at h
 cases h
 cases ho)).trans hk⟩
theorem elements75 (v : Value) (w : World) (h1 : ∃ A n c,v = .slice A n c) :
  Calls Tryz.prog 75 #[v] w fun e w' => ∃ c1,e = .returned (.func (.func 115) #[] #[.pointer (some ⟨c1,0,none⟩)]) ∧ w.heap.size ≤ c1 ∧ w'.heap[c1]? = some (.cells #[v] 82 (0,0)) ∧ Below w.heap.size w w' := by
 obtain ⟨A,n,c,rfl⟩ := h1
 refine enter 4 Tryz.func75 G G _ (by simp) ?_
 refine obx (cs := [.slice A n c]) G G ?_
 intro c1 w1 h1e h1 hb1
 refine av G<|pl (.func (.func 115) #[] #[.pointer (some ⟨c1,0,none⟩)]) (fun _ => by kernel_rfl)<|af G<|?_
 exact rt1 rfl rfl ⟨c1,rfl,by omega,h1,hb1⟩
theorem list37 (s bs : Nat) (v : Value) (w : World) (hs : s < 4611686018427387904) (hG : Glob w) (hv : SetB w bs v s) (hl : (bitsW s).length ≤ 100) :
  Calls Tryz.prog 37 #[v] w fun e w' => ∃ A c,e = .returned (.slice A (bitsW s).length c) ∧ (Kd.int .i64).R 3 w' w.heap.size (fun _ => True) (.slice A (bitsW s).length c) (bitsW s) ∧ Below w.heap.size w w' := by
 obtain ⟨A,m,c,rfl,hmc,hor⟩ := id hv
 refine enter 12 Tryz.func37 G G _ (by simp) ?_
 refine oal (v := .slice none 0 0) (cs := [.slice none 0 0]) (fun _ => by kernel_rfl) G ?_
 intro b2 w1 h2e h2 hb1
 refine ms G<|cl C75 [] G ((elements75 (.slice A m c) w1 ⟨A,m,c,rfl⟩).mono ?_)
 rintro e w2 ⟨c1,rfl,hc1,hcb,hb2⟩
 refine ⟨_,rfl,?_⟩
 have hlt2 := Am h2
 have h2 := Ab h2 hb2
 have hB := Ad hb1 hb2
 have hsz := hB.size
 refine Kv (α := Int) (gf := 115) (lb := #[.pointer (some ⟨c1,0,none⟩)]) (w0 := w2) G (⟨_,Tryz.func115,by kernel_rfl,by kernel_rfl⟩ : Ag Tryz.prog 115) (by kernel_rfl) (by kernel_rfl)
  (fun mm => elems115 s bs c1 b2 _ w w2 hs hG hB hv (by omega) hcb (by omega) mm)
  (fun h k => h.trans k) (fun V l o o' hl ho hoc how => KpO.low (belowK_b (Nat.le_refl _) V l o o' hl ho hoc how)) (Below.refl _ _) (fun _ => rfl)
  (fun (pre : List Int) (V : World) => w2.heap.size ≤ V.heap.size ∧ Below w.heap.size w V ∧ ∃ A' c',V.heap[b2]? = some (.cells [.slice A' pre.length c'].toArray 22 (0,0)) ∧ (Kd.int .i64).R 3 V w2.heap.size (fun _ => True) (.slice A' pre.length c') pre)
  (fun _ _ _ => False) ?_ ?_ ⟨Nat.le_refl _,hB,none,0,h2,Kd.R_nil _ _ _ _ _⟩
  (σ := Unit) (fun e _ => [(2,.pointer (some ⟨b2,0,none⟩)),(3,.int .i64 e)]) (fun e _ V => True) (fun e _ => fun _ _ _ _ h _ _ => h) ?_ ?_ ?_ ?_
 ·intro pre V V' row ⟨h1,h3,A',c',h5,h6⟩ hg hr
  exact ⟨Nat.le_trans h1 hg.size,h3.grown hg (Nat.le_trans hsz h1) (fun k e => by have := (hr k e).1; omega),A',c',BT (β := Unit) () V V' row h5 hg hr,HT (β := Unit) () V V' row h6 hg hr⟩
 ·intro c pre V V' row h hg hr
  exact h
 ·rintro l pre e V ⟨h1,h3,A',c',h5,h6⟩
  refine ai G<|?_
  exact ⟨KeepsFrom.refl _ _,KpO.refl _ _ _,⟨h1,h3,A',c',h5,h6⟩,(),⟨rfl,rfl,rfl⟩,trivial⟩
 ·rintro l pre e _ g' V hl ⟨h1,h3,A',c',h5,h6⟩ _ hlen
  have hc0 : V.cell? ⟨b2,0,none⟩ = some (.slice A' pre.length c') := (Ac h5 0).trans rfl
  have hsV : w.heap.size ≤ V.heap.size := Nat.le_trans hsz h1
  refine old G22 G ‹_›<|mi G<|EJ (bytes := 8) (m := pre.length) (c := c') (A := A') (Kd.int .i64) (p := e) (cs := [.int .i64 e]) U22 I3 G (by decide) (by decide) G (by simp) G (AJ U22 I3 G G) h6 (okp := fun i => some i ≠ (Value.slice A' pre.length c').ownBlock) G (fun i hi => ⟨trivial,hi⟩) (fun _ _ => trivial) h1 (by omega) ?_
  intro A2 c2 V2 hR2 hg2
  have h52 : V2.heap[b2]? = some (.cells [.slice A' pre.length c'].toArray 22 (0,0)) := (hg2.block b2 (Am h5) (fun e => by
   obtain ⟨cells,hc⟩ := Kd.R_typed h6 b2 e.symm
   exact An h5 hc (by decide) rfl)).trans h5
  refine Bc (v := .slice A2 (pre ++ [e]).length c2) (cs := [.slice A' pre.length c']) (i := 0) S22 G G G h52 (by simp) ?_
  intro V3 h53 hg3
  have hs2 := hg2.size
  have hs3 := hg3.size
  have hob : ∀ k,(Value.slice A' pre.length c').ownBlock = some k → w2.heap.size ≤ k := fun k hk => Kd.R_base h6 k hk
  have hk2 : KpO w2.heap.size b2 V V2 := ⟨hs2,fun i hi _ => hg2.block i (Nat.lt_of_lt_of_le hi h1) (fun e => by have := hob i e.symm; omega)⟩
  have hB2 : Below w.heap.size w V2 := h3.grown hg2 hsV (fun k hk => Nat.le_trans hsz (hob k hk))
  refine ⟨(BO h6 hg2).trans (BG h52 hg3),hk2.trans (KpO.turn hg3 (by omega)),⟨by omega,hB2.grown hg3 hB2.size (fun k e => by cases e; omega),A2,c2,h53,Ah hR2 h52 (by decide) hg3⟩⟩
 ·rintro D xs V hD hS ⟨h1,h3,A',c',h5,h6⟩ hK
  have hS : xs = bitsW s := hS
  subst hS
  have hc0 : V.cell? ⟨b2,0,none⟩ = some (.slice A' (bitsW s).length c') := (Ac h5 0).trans rfl
  refine old G22 G ‹_›<|Bc (v := .slice A' (bitsW s).length c') (cs := [.slice A' (bitsW s).length c']) (i := 0) S22 G G G h5 (by simp) ?_
  intro V2 h52 hg2
  have hK2 := (hg2.block D (Array.getElem?_eq_some_iff.1 hK).1 (fun e => by cases e; rw [hK] at h5; cases h5)).trans hK
  refine rtm G G G hK2 h52 G22 ⟨A',c',rfl,Kd.R_lower (Jn (Ah h6 h5 (by decide) hg2) hK2) hsz,?_⟩
  exact (h3.grown hg2 h3.size (fun k e => by cases e; omega)).grown (Cm V2 D) (Nat.le_trans h3.size hg2.size) (fun k e => by cases e; omega)
 ·rintro D c pre V hD hS h hK
  exact h.elim
end
end Go.Proofs.YtmjllchdhcdinaaGreatDoor
