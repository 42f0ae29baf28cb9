/- Days of work: rules as an element type. -/
import Derived.Test.YtjicpflgkhdppaaWorkRuleR
import Derived.Test.YtjicpflgkhdppaaEl2
set_option linter.unusedSimpArgs false
set_option linter.unusedVariables false
namespace Go.Proofs.Ytjicpflgkhdppaa
open Go.RowKit
namespace Wk
def eRl (r : Rl) : List Value := [.int .i64 r.1, .int .i64 r.2.1, .int .i64 r.2.2.1, .int .i64 r.2.2.2]
@[reducible] def elRl : El Rl where
  k := 4
  enc := eRl
  te := 72
  ts := 23
  bytes := 32
  zero := .agg #[.int .i64 0, .int .i64 0, .int .i64 0, .int .i64 0]
  k0 := by decide
  zs := rfl
  len := fun _ => rfl
  one := fun x y h => by simp [eRl] at h; rcases h with rfl | rfl | rfl | rfl <;> rfl
  info := by kernel_rfl
  und := Try.underlying23
/-- a calendar as a value: seven weekdays, and its rules' slice -/
abbrev cV (rest : List Bool) (v : Value) : Value := .agg (rest.map Value.bool ++ [v]).toArray
end Wk
end Go.Proofs.Ytjicpflgkhdppaa
