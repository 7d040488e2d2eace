/- The contracts of Go's library that the log's walks take: strings.HasPrefix, strings.Repeat, the Builder's methods. Laid by the kit's own tools (lay-shelf.mjs, lay-plain.mjs) over this seat's program; cut by gen/shelf.py. -/
import Derived.Shelf.Strings.Builder1
import Derived.Shelf.Strings.Builder2
import Derived.Shelf.Strings.Prefix
import Derived.Shelf.Bits.Mul64
import Derived.Shelf.Strings.Repeat
import Derived.Test.YtgidmcfnnmheoaaProg
namespace Go.Proofs.Ytgidmcfnnmheoaa
open Go.Shelf
def Try.lays99_ren : Go.Shelf.Ren := ⟨fun | 99 => 32 | 206 => 36 | n => n, fun | 9 => 9 | 4 => 4 | 3 => 3 | n => n, fun | n => n⟩
theorem Try.lays99 : Go.Proofs.Lays.n99 Try.prog Try.lays99_ren := {
  mixed := by kernel_rfl
  f99 := Try.func32.trans (congrArg some (by kernel_rfl))
  f206 := Try.func36.trans (congrArg some (by kernel_rfl))
  t3 := Try.underlying3
  a3 := Try.isAgg3
  z3 := Try.sizeOf3
  v3 := Try.zeroValue3
  t4 := Try.underlying4
  a4 := Try.isAgg4
  z4 := Try.sizeOf4
  v4 := Try.zeroValue4
  t9 := Try.underlying9
  a9 := Try.isAgg9
  z9 := Try.sizeOf9
  v9 := Try.zeroValue9 }
open Go.RowKit Go.Lib in
theorem Try.strings_HasPrefix (s p : ByteArray) (w : World) :
    Calls Try.prog 32 #[.string s, .string p] w fun e w' => e = .returned (.bool (Lib.hasPrefix s.data.toList p.data.toList)) ∧ w' = w := Any.strings_HasPrefix Try.lays99 s p w
def Try.lays105_ren : Go.Shelf.Ren := ⟨fun | 105 => 31 | 212 => 34 | 99 => 32 | 165 => 35 | 166 => 20 | 170 => 22 | 169 => 25 | 263 => 37 | 264 => 38 | 206 => 36 | 240 => 30 | 241 => 39 | 276 => 33 | 277 => 40 | n => n, fun | 9 => 9 | 3 => 3 | 4 => 4 | 20 => 20 | 0 => 0 | 46 => 44 | 109 => 62 | 5 => 5 | 72 => 47 | 76 => 50 | 51 => 23 | 146 => 65 | 53 => 67 | 148 => 68 | 70 => 45 | 37 => 43 | 75 => 49 | 127 => 59 | 164 => 60 | 80 => 56 | n => n, fun | n => n⟩
theorem Try.lays105 : Go.Proofs.Lays.n105 Try.prog Try.lays105_ren := {
  mixed := by kernel_rfl
  f99 := Try.func32.trans (congrArg some (by kernel_rfl))
  f105 := Try.func31.trans (congrArg some (by kernel_rfl))
  f165 := Try.func35.trans (congrArg some (by kernel_rfl))
  f166 := Try.func20.trans (congrArg some (by kernel_rfl))
  f169 := Try.func25.trans (congrArg some (by kernel_rfl))
  f170 := Try.func22.trans (congrArg some (by kernel_rfl))
  f206 := Try.func36.trans (congrArg some (by kernel_rfl))
  f212 := Try.func34.trans (congrArg some (by kernel_rfl))
  f240 := Try.func30.trans (congrArg some (by kernel_rfl))
  f241 := Try.func39.trans (congrArg some (by kernel_rfl))
  f263 := Try.func37.trans (congrArg some (by kernel_rfl))
  f264 := Try.func38.trans (congrArg some (by kernel_rfl))
  f276 := Try.func33.trans (congrArg some (by kernel_rfl))
  f277 := Try.func40.trans (congrArg some (by kernel_rfl))
  t0 := Try.underlying0
  a0 := Try.isAgg0
  z0 := Try.sizeOf0
  v0 := Try.zeroValue0
  t3 := Try.underlying3
  a3 := Try.isAgg3
  z3 := Try.sizeOf3
  v3 := Try.zeroValue3
  t4 := Try.underlying4
  a4 := Try.isAgg4
  z4 := Try.sizeOf4
  v4 := Try.zeroValue4
  t5 := Try.underlying5
  a5 := Try.isAgg5
  z5 := Try.sizeOf5
  v5 := Try.zeroValue5
  t9 := Try.underlying9
  a9 := Try.isAgg9
  z9 := Try.sizeOf9
  v9 := Try.zeroValue9
  t20 := Try.underlying20
  a20 := Try.isAgg20
  z20 := Try.sizeOf20
  v20 := Try.zeroValue20
  t37 := Try.underlying43
  a37 := Try.isAgg43
  z37 := Try.sizeOf43
  v37 := Try.zeroValue43
  t46 := Try.underlying44
  a46 := Try.isAgg44
  z46 := Try.sizeOf44
  v46 := Try.zeroValue44
  t51 := Try.underlying23
  a51 := Try.isAgg23
  z51 := Try.sizeOf23
  v51 := Try.zeroValue23
  t53 := Try.underlying67
  a53 := Try.isAgg67
  z53 := Try.sizeOf67
  v53 := Try.zeroValue67
  t70 := Try.underlying45
  a70 := Try.isAgg45
  z70 := Try.sizeOf45
  v70 := Try.zeroValue45
  t72 := Try.underlying47
  a72 := Try.isAgg47
  z72 := Try.sizeOf47
  v72 := Try.zeroValue47
  t75 := Try.underlying49
  a75 := Try.isAgg49
  z75 := Try.sizeOf49
  v75 := Try.zeroValue49
  t76 := Try.underlying50
  a76 := Try.isAgg50
  z76 := Try.sizeOf50
  v76 := Try.zeroValue50
  t109 := Try.underlying62
  a109 := Try.isAgg62
  z109 := Try.sizeOf62
  v109 := Try.zeroValue62
  t127 := Try.underlying59
  a127 := Try.isAgg59
  z127 := Try.sizeOf59
  v127 := Try.zeroValue59
  t146 := Try.underlying65
  a146 := Try.isAgg65
  z146 := Try.sizeOf65
  v146 := Try.zeroValue65
  t148 := Try.underlying68
  a148 := Try.isAgg68
  z148 := Try.sizeOf68
  v148 := Try.zeroValue68
  t164 := Try.underlying60
  a164 := Try.isAgg60
  z164 := Try.sizeOf60
  v164 := Try.zeroValue60 }
theorem Try.Builder_Extra_105 : Builder.Extra Try.prog Try.lays105_ren := {
  sizeBuilder := by kernel_rfl
  liesBuilder := by kernel_rfl
  t5 := Try.underlying5
  a5 := Try.isAgg5
  z5 := Try.sizeOf5
  v5 := Try.zeroValue5
  infoByte := by kernel_rfl
  cellsByte := by kernel_rfl
  sizeByte := by kernel_rfl
  neB5 := by decide }
open Go.RowKit Go.Lib in
theorem Try.strings_Repeat (s : ByteArray) (c : Nat) (w : World) (hc : c ≤ 9223372036854775807) (hlen : s.size * c ≤ 140737488355328) :
    Calls Try.prog 31 #[.string s, .int .i64 c] w fun e w' => e = .returned (.string ⟨(Lib.repeatL s.data.toList c).toArray⟩) ∧ Below w.heap.size w w' := Any.strings_Repeat Try.lays105 Try.Builder_Extra_105 s c w hc hlen
theorem Try.lays166 : Go.Proofs.Lays.n166 Try.prog Try.lays105_ren := { mixed := Try.lays105.mixed, f166 := Try.lays105.f166, f240 := Try.lays105.f240, f276 := Try.lays105.f276, t0 := Try.lays105.t0, a0 := Try.lays105.a0, z0 := Try.lays105.z0, v0 := Try.lays105.v0, t3 := Try.lays105.t3, a3 := Try.lays105.a3, z3 := Try.lays105.z3, v3 := Try.lays105.v3, t4 := Try.lays105.t4, a4 := Try.lays105.a4, z4 := Try.lays105.z4, v4 := Try.lays105.v4, t9 := Try.lays105.t9, a9 := Try.lays105.a9, z9 := Try.lays105.z9, v9 := Try.lays105.v9, t20 := Try.lays105.t20, a20 := Try.lays105.a20, z20 := Try.lays105.z20, v20 := Try.lays105.v20, t37 := Try.lays105.t37, a37 := Try.lays105.a37, z37 := Try.lays105.z37, v37 := Try.lays105.v37, t70 := Try.lays105.t70, a70 := Try.lays105.a70, z70 := Try.lays105.z70, v70 := Try.lays105.v70, t72 := Try.lays105.t72, a72 := Try.lays105.a72, z72 := Try.lays105.z72, v72 := Try.lays105.v72, t75 := Try.lays105.t75, a75 := Try.lays105.a75, z75 := Try.lays105.z75, v75 := Try.lays105.v75, t164 := Try.lays105.t164, a164 := Try.lays105.a164, z164 := Try.lays105.z164, v164 := Try.lays105.v164 }
theorem Try.lays170 : Go.Proofs.Lays.n170 Try.prog Try.lays105_ren := { mixed := Try.lays105.mixed, f170 := Try.lays105.f170, t0 := Try.lays105.t0, a0 := Try.lays105.a0, z0 := Try.lays105.z0, v0 := Try.lays105.v0, t3 := Try.lays105.t3, a3 := Try.lays105.a3, z3 := Try.lays105.z3, v3 := Try.lays105.v3, t37 := Try.lays105.t37, a37 := Try.lays105.a37, z37 := Try.lays105.z37, v37 := Try.lays105.v37, t70 := Try.lays105.t70, a70 := Try.lays105.a70, z70 := Try.lays105.z70, v70 := Try.lays105.v70, t72 := Try.lays105.t72, a72 := Try.lays105.a72, z72 := Try.lays105.z72, v72 := Try.lays105.v72 }
theorem Try.lays169 : Go.Proofs.Lays.n169 Try.prog Try.lays105_ren := { mixed := Try.lays105.mixed, f169 := Try.lays105.f169, t0 := Try.lays105.t0, a0 := Try.lays105.a0, z0 := Try.lays105.z0, v0 := Try.lays105.v0, t3 := Try.lays105.t3, a3 := Try.lays105.a3, z3 := Try.lays105.z3, v3 := Try.lays105.v3, t9 := Try.lays105.t9, a9 := Try.lays105.a9, z9 := Try.lays105.z9, v9 := Try.lays105.v9, t37 := Try.lays105.t37, a37 := Try.lays105.a37, z37 := Try.lays105.z37, v37 := Try.lays105.v37, t70 := Try.lays105.t70, a70 := Try.lays105.a70, z70 := Try.lays105.z70, v70 := Try.lays105.v70, t72 := Try.lays105.t72, a72 := Try.lays105.a72, z72 := Try.lays105.z72, v72 := Try.lays105.v72, t127 := Try.lays105.t127, a127 := Try.lays105.a127, z127 := Try.lays105.z127, v127 := Try.lays105.v127 }
end Go.Proofs.Ytgidmcfnnmheoaa
