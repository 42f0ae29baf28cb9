/- Slices of strings, of bytes, of ints, as element types. -/
import Derived.Test.YtkanlfgomfibdaaDoorEl
set_option linter.unusedSimpArgs false
set_option linter.unusedVariables false
namespace Go.Proofs.YtkanlfgomfibdaaDoor
open Go.RowKit
def eB (b : UInt8) : List Value := [.int .u8 b.toNat]
@[reducible] def elB : El UInt8 where
  k := 1
  enc := eB
  te := 5
  ts := 31
  bytes := 1
  zero := .int .u8 0
  k0 := by decide
  zs := rfl
  len := fun _ => rfl
  one := fun x y h => by simp [eB] at h; subst h; rfl
  info := by kernel_rfl
  und := Tryd.underlying31
end Go.Proofs.YtkanlfgomfibdaaDoor
