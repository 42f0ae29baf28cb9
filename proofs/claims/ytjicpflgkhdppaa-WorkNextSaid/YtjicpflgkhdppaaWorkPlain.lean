/- Days of work: the plain law. Rules are quadruples (kind, month, day, weekday). -/
import Derived.Test.YtjicpflgkhdppaaEasterLawsw
set_option linter.unusedSimpArgs false
set_option linter.unusedVariables false
namespace Go.Proofs.Ytjicpflgkhdppaa
open Go.RowKit
namespace Wk
open Dt
abbrev Rl := Int × Int × Int × Int
/-- a rule's error -/
def ruleE (r : Rl) : Int :=
  if r.1 = 1 then (if r.2.2.1 < 1 ∨ len0 2001 r.2.1 < r.2.2.1 then 3 else if r.2.2.2 ≠ 0 then 1 else 0)
  else if r.1 = 2 then (if r.2.1 < 1 ∨ 12 < r.2.1 ∨ r.2.2.1 < 1 ∨ 5 < r.2.2.1 ∨ r.2.2.2 < 1 ∨ 7 < r.2.2.2 then 3 else 0)
  else if r.1 = 3 then (if r.2.1 ≠ 0 ∨ r.2.2.2 ≠ 0 then 1 else if r.2.2.1 < -100 ∨ 100 < r.2.2.1 then 3 else 0)
  else 7
/-- the first error of rules -/
def rulesE : List Rl → Int
  | [] => 0
  | r :: l => if ruleE r ≠ 0 then ruleE r else rulesE l
/-- a calendar's error -/
def calE (rest : List Bool) (rules : List Rl) : Int :=
  if rest.all id then 1 else if 12 < rules.length then 2 else rulesE rules
/-- is the weekday of day n one of rest? -/
def isRest (rest : List Bool) (n : Int) : Bool := rest.getD (wd n - 1).toNat false
/-- the first day from n on, k days at most, that is none of rest -/
def free (rest : List Bool) (n : Int) : Nat → Int
  | 0 => n
  | k + 1 => if isRest rest n then free rest (n + 1) k else n
/-- the day of a rule in a year; none: it has none -/
def ruleD (rest : List Bool) (r : Rl) (y : Int) : Option Int :=
  if r.1 = 1 then some (free rest (raw y r.2.1 r.2.2.1) 7)
  else if r.1 = 2 then
    let a := raw y r.2.1 1
    let n := a + (r.2.2.2 - wd a + 7) % 7 + 7 * (r.2.2.1 - 1)
    some (if a + len0 y r.2.1 ≤ n then n - 7 else n)
  else if 1583 ≤ y ∧ y ≤ 9999 then some (easter y + r.2.2.1) else none
/-- a year's holidays, as the rules name them -/
def days (rest : List Bool) (rules : List Rl) (y : Int) : List Int := rules.filterMap (fun r => ruleD rest r y)
/-- is day n a holiday of year y's? -/
def isHol (rest : List Bool) (rules : List Rl) (y n : Int) : Bool := decide (1 ≤ y) && (days rest rules y).contains n
/-- is day n one of work? -/
def isW (rest : List Bool) (rules : List Rl) (n : Int) : Bool := !isRest rest n && !isHol rest rules (yearOf n) n && !isHol rest rules (yearOf n - 1) n
end Wk
end Go.Proofs.Ytjicpflgkhdppaa
