/- Layings of the library's contracts at this program, written out. (gen_lay.py) -/
import Derived.Shelf.Unicode.CaseLaid
import Derived.Shelf.Strings.Runes
import Derived.Test.YtkanlfgomfibdaaDoorProg
set_option linter.unusedSimpArgs false
set_option linter.unusedVariables false
namespace Go.Proofs.YtkanlfgomfibdaaDoor
open Go.Shelf
namespace Lay
def lUp_ren : Go.Shelf.Ren := ⟨fun | 203 => 21 | 262 => 23 | 313 => 28 | 274 => 30 | 275 => 31 | n => n, fun | 21 => 21 | 4 => 4 | 3 => 3 | 162 => 50 | 203 => 48 | 160 => 51 | 46 => 46 | 0 => 0 | 208 => 58 | 51 => 54 | 206 => 56 | n => n, fun | 13 => 0 | n => n⟩
theorem lUp : Lays.n203 Tryd.prog lUp_ren where
  mixed := by kernel_rfl
  f203 := Tryd.func21.trans (congrArg some (by kernel_rfl))
  f262 := Tryd.func23.trans (congrArg some (by kernel_rfl))
  f274 := Tryd.func30.trans (congrArg some (by kernel_rfl))
  f275 := Tryd.func31.trans (congrArg some (by kernel_rfl))
  f313 := Tryd.func28.trans (congrArg some (by kernel_rfl))
  t0 := Tryd.underlying0
  a0 := Tryd.isAgg0
  z0 := Tryd.sizeOf0
  v0 := Tryd.zeroValue0
  t3 := Tryd.underlying3
  a3 := Tryd.isAgg3
  z3 := Tryd.sizeOf3
  v3 := Tryd.zeroValue3
  t4 := Tryd.underlying4
  a4 := Tryd.isAgg4
  z4 := Tryd.sizeOf4
  v4 := Tryd.zeroValue4
  t21 := Tryd.underlying21
  a21 := Tryd.isAgg21
  z21 := Tryd.sizeOf21
  v21 := Tryd.zeroValue21
  t46 := Tryd.underlying46
  a46 := Tryd.isAgg46
  z46 := Tryd.sizeOf46
  v46 := Tryd.zeroValue46
  t51 := Tryd.underlying54
  a51 := Tryd.isAgg54
  z51 := Tryd.sizeOf54
  v51 := Tryd.zeroValue54
  t160 := Tryd.underlying51
  a160 := Tryd.isAgg51
  z160 := Tryd.sizeOf51
  v160 := Tryd.zeroValue51
  t162 := Tryd.underlying50
  a162 := Tryd.isAgg50
  z162 := Tryd.sizeOf50
  v162 := Tryd.zeroValue50
  t203 := Tryd.underlying48
  a203 := Tryd.isAgg48
  z203 := Tryd.sizeOf48
  v203 := Tryd.zeroValue48
  t206 := Tryd.underlying56
  a206 := Tryd.isAgg56
  z206 := Tryd.sizeOf56
  v206 := Tryd.zeroValue56
  t208 := Tryd.underlying58
  a208 := Tryd.isAgg58
  z208 := Tryd.sizeOf58
  v208 := Tryd.zeroValue58
  g13 := by kernel_rfl
def lIx_ren : Go.Shelf.Ren := ⟨fun | 152 => 22 | 137 => 24 | 119 => 25 | 224 => 26 | 225 => 27 | 217 => 29 | 266 => 32 | n => n, fun | 9 => 9 | 21 => 21 | 3 => 3 | 4 => 4 | 5 => 5 | 0 => 0 | 46 => 46 | n => n, fun | n => n⟩
theorem lIx : Lays.n152 Tryd.prog lIx_ren where
  mixed := by kernel_rfl
  f119 := Tryd.func25.trans (congrArg some (by kernel_rfl))
  f137 := Tryd.func24.trans (congrArg some (by kernel_rfl))
  f152 := Tryd.func22.trans (congrArg some (by kernel_rfl))
  f217 := Tryd.func29.trans (congrArg some (by kernel_rfl))
  f224 := Tryd.func26.trans (congrArg some (by kernel_rfl))
  f225 := Tryd.func27.trans (congrArg some (by kernel_rfl))
  f266 := Tryd.func32.trans (congrArg some (by kernel_rfl))
  t0 := Tryd.underlying0
  a0 := Tryd.isAgg0
  z0 := Tryd.sizeOf0
  v0 := Tryd.zeroValue0
  t3 := Tryd.underlying3
  a3 := Tryd.isAgg3
  z3 := Tryd.sizeOf3
  v3 := Tryd.zeroValue3
  t4 := Tryd.underlying4
  a4 := Tryd.isAgg4
  z4 := Tryd.sizeOf4
  v4 := Tryd.zeroValue4
  t5 := Tryd.underlying5
  a5 := Tryd.isAgg5
  z5 := Tryd.sizeOf5
  v5 := Tryd.zeroValue5
  t9 := Tryd.underlying9
  a9 := Tryd.isAgg9
  z9 := Tryd.sizeOf9
  v9 := Tryd.zeroValue9
  t21 := Tryd.underlying21
  a21 := Tryd.isAgg21
  z21 := Tryd.sizeOf21
  v21 := Tryd.zeroValue21
  t46 := Tryd.underlying46
  a46 := Tryd.isAgg46
  z46 := Tryd.sizeOf46
  v46 := Tryd.zeroValue46
def lCr_ren : Go.Shelf.Ren := ⟨fun | 274 => 30 | n => n, fun | 21 => 21 | 162 => 50 | 160 => 51 | 3 => 3 | 4 => 4 | 46 => 46 | 0 => 0 | 208 => 58 | 51 => 54 | 206 => 56 | n => n, fun | n => n⟩
theorem lCr : Lays.n274 Tryd.prog lCr_ren where
  mixed := by kernel_rfl
  f274 := Tryd.func30.trans (congrArg some (by kernel_rfl))
  t0 := Tryd.underlying0
  a0 := Tryd.isAgg0
  z0 := Tryd.sizeOf0
  v0 := Tryd.zeroValue0
  t3 := Tryd.underlying3
  a3 := Tryd.isAgg3
  z3 := Tryd.sizeOf3
  v3 := Tryd.zeroValue3
  t4 := Tryd.underlying4
  a4 := Tryd.isAgg4
  z4 := Tryd.sizeOf4
  v4 := Tryd.zeroValue4
  t21 := Tryd.underlying21
  a21 := Tryd.isAgg21
  z21 := Tryd.sizeOf21
  v21 := Tryd.zeroValue21
  t46 := Tryd.underlying46
  a46 := Tryd.isAgg46
  z46 := Tryd.sizeOf46
  v46 := Tryd.zeroValue46
  t51 := Tryd.underlying54
  a51 := Tryd.isAgg54
  z51 := Tryd.sizeOf54
  v51 := Tryd.zeroValue54
  t160 := Tryd.underlying51
  a160 := Tryd.isAgg51
  z160 := Tryd.sizeOf51
  v160 := Tryd.zeroValue51
  t162 := Tryd.underlying50
  a162 := Tryd.isAgg50
  z162 := Tryd.sizeOf50
  v162 := Tryd.zeroValue50
  t208 := Tryd.underlying58
  a208 := Tryd.isAgg58
  z208 := Tryd.sizeOf58
  v208 := Tryd.zeroValue58
end Lay
end Go.Proofs.YtkanlfgomfibdaaDoor
