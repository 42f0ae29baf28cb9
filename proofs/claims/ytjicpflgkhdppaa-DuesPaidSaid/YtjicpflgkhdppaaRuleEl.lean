/- Days of work: the plain law. Rules are quadruples (kind, month, day, weekday). -/
import Derived.Test.YtjicpflgkhdppaaEasterLawsw
import Derived.BigQuiet
import Derived.Test.YtjicpflgkhdppaaEl2
set_option linter.unusedSimpArgs false
set_option linter.unusedVariables false
namespace Go.Proofs.Ytjicpflgkhdppaa
open Go.RowKit
namespace Wk
open Dt
abbrev Rl := Int × Int × Int × Int
/-- a rule's error -/
def ruleE (r : Rl) : Int :=
  if r.1 = 1 then (if r.2.2.1 < 1 ∨ len0 2001 r.2.1 < r.2.2.1 then 3 else if r.2.2.2 ≠ 0 then 1 else 0)
  else if r.1 = 2 then (if r.2.1 < 1 ∨ 12 < r.2.1 ∨ r.2.2.1 < 1 ∨ 5 < r.2.2.1 ∨ r.2.2.2 < 1 ∨ 7 < r.2.2.2 then 3 else 0)
  else if r.1 = 3 then (if r.2.1 ≠ 0 ∨ r.2.2.2 ≠ 0 then 1 else if r.2.2.1 < -100 ∨ 100 < r.2.2.1 then 3 else 0)
  else 7
/-- the first error of rules -/
def rulesE : List Rl → Int
  | [] => 0
  | r :: l => if ruleE r ≠ 0 then ruleE r else rulesE l
/-- a calendar's error -/
def calE (rest : List Bool) (rules : List Rl) : Int :=
  if rest.all id then 1 else if 12 < rules.length then 2 else rulesE rules
/-- is the weekday of day n one of rest? -/
def isRest (rest : List Bool) (n : Int) : Bool := rest.getD (wd n - 1).toNat false
/-- the first day from n on, k days at most, that is none of rest -/
def free (rest : List Bool) (n : Int) : Nat → Int
  | 0 => n
  | k + 1 => if isRest rest n then free rest (n + 1) k else n
/-- the day of a rule in a year; none: it has none -/
def ruleD (rest : List Bool) (r : Rl) (y : Int) : Option Int :=
  if r.1 = 1 then some (free rest (raw y r.2.1 r.2.2.1) 7)
  else if r.1 = 2 then
    let a := raw y r.2.1 1
    let n := a + (r.2.2.2 - wd a + 7) % 7 + 7 * (r.2.2.1 - 1)
    some (if a + len0 y r.2.1 ≤ n then n - 7 else n)
  else if 1583 ≤ y ∧ y ≤ 9999 then some (easter y + r.2.2.1) else none
/-- a year's holidays, as the rules name them -/
def days (rest : List Bool) (rules : List Rl) (y : Int) : List Int := rules.filterMap (fun r => ruleD rest r y)
/-- is day n a holiday of year y's? -/
def isHol (rest : List Bool) (rules : List Rl) (y n : Int) : Bool := decide (1 ≤ y) && (days rest rules y).contains n
/-- is day n one of work? -/
def isW (rest : List Bool) (rules : List Rl) (n : Int) : Bool := !isRest rest n && !isHol rest rules (yearOf n) n && !isHol rest rules (yearOf n - 1) n
end Wk
end Go.Proofs.Ytjicpflgkhdppaa
/- Days of work: a rule by itself. -/
set_option linter.unusedVariables false
namespace Go.Proofs.Ytjicpflgkhdppaa
open Go.RowKit
namespace Wk
open Dt
abbrev rV (k m d x : Int) : Value := .agg #[.int .i64 k, .int .i64 m, .int .i64 d, .int .i64 x]
abbrev IntB (z : Int) (w : World) (e : Ending) (w' : World) : Prop := e = .returned (.int .i64 z) ∧ Below w.heap.size w w'
set_option maxHeartbeats 2000000 in
theorem rule_1 (m d x z : Int) (w : World) (hz : RowKit.Hid (ruleE (1, m, d, x) = z)) : Calls Try.prog 43 #[rV 1 m d x] w (IntB z w) := by
  by_cases h1 : d < 1
  · have hg : decide (d < 1) = true := decide_eq_true h1
    have e : z = 3 := by rw [← hz.out]; simp [ruleE, h1]
    subst e
    clear hz
    go_enter Try.func43, Try.ntmps43
    go_wp2_with fail
    go_quiet (fail)
    go_wp2
    go_ret
    exact ⟨by first | rfl | (simp; done), by first | exact (br _).alloc (Nat.le_refl _) _ | exact bn ((br _).alloc (Nat.le_refl _) _) _ | exact ((br _).alloc (Nat.le_refl _) _).drew⟩
  · have hg : decide (d < 1) = false := decide_eq_false h1
    by_cases h2 : len0 2001 m < d
    · have e : z = 3 := by rw [← hz.out]; simp [ruleE, h2]
      subst e
      have hg2 : decide (len0 2001 m < d) = true := decide_eq_true h2
      clear hz
      go_enter Try.func43, Try.ntmps43
      go_wp2_with fail
      go_quiet ((go_at_call 65; exact qz (len0_any _ _ _)))
      go_wp2
      go_ret
      exact ⟨by first | rfl | (simp; done), by first | exact (br _).alloc (Nat.le_refl _) _ | exact bn ((br _).alloc (Nat.le_refl _) _) _ | exact ((br _).alloc (Nat.le_refl _) _).drew⟩
    · have hg2 : decide (len0 2001 m < d) = false := decide_eq_false h2
      by_cases h3 : x = 0
      · subst h3
        have e : z = 0 := by rw [← hz.out]; simp [ruleE, h1, h2]
        subst e
        clear hz
        go_enter Try.func43, Try.ntmps43
        go_wp2_with fail
        go_quiet ((go_at_call 65; exact qz (len0_any _ _ _)))
        go_wp2
        go_ret
        exact ⟨by first | rfl | (simp; done), by first | exact (br _).alloc (Nat.le_refl _) _ | exact bn ((br _).alloc (Nat.le_refl _) _) _ | exact ((br _).alloc (Nat.le_refl _) _).drew⟩
      · have e : z = 1 := by rw [← hz.out]; simp [ruleE, h1, h2, h3]
        subst e
        clear hz
        go_enter Try.func43, Try.ntmps43
        go_wp2_with fail
        go_quiet ((go_at_call 65; exact qz (len0_any _ _ _)))
        go_wp2
        go_ret
        exact ⟨by first | rfl | (simp; done), by first | exact (br _).alloc (Nat.le_refl _) _ | exact bn ((br _).alloc (Nat.le_refl _) _) _ | exact ((br _).alloc (Nat.le_refl _) _).drew⟩
set_option maxHeartbeats 2000000 in
theorem rule_3 (m d x z : Int) (w : World) (hz : RowKit.Hid (ruleE (3, m, d, x) = z)) : Calls Try.prog 43 #[rV 3 m d x] w (IntB z w) := by
  by_cases h1 : m = 0
  · subst h1
    by_cases h2 : x = 0
    · subst h2
      by_cases h3 : d < -100
      · have e : z = 3 := by rw [← hz.out]; simp [ruleE, h3]
        subst e
        clear hz
        go_enter Try.func43, Try.ntmps43
        go_wp2
        go_ret
        exact ⟨by first | rfl | (simp; done), by first | exact (br _).alloc (Nat.le_refl _) _ | exact bn ((br _).alloc (Nat.le_refl _) _) _ | exact ((br _).alloc (Nat.le_refl _) _).drew⟩
      · by_cases h4 : 100 < d
        · have e : z = 3 := by rw [← hz.out]; simp [ruleE, h4]
          subst e
          clear hz
          go_enter Try.func43, Try.ntmps43
          go_wp2
          go_ret
          exact ⟨by first | rfl | (simp; done), by first | exact (br _).alloc (Nat.le_refl _) _ | exact bn ((br _).alloc (Nat.le_refl _) _) _ | exact ((br _).alloc (Nat.le_refl _) _).drew⟩
        · have e : z = 0 := by rw [← hz.out]; simp [ruleE, h3, h4]
          subst e
          clear hz
          go_enter Try.func43, Try.ntmps43
          go_wp2
          go_ret
          exact ⟨by first | rfl | (simp; done), by first | exact (br _).alloc (Nat.le_refl _) _ | exact bn ((br _).alloc (Nat.le_refl _) _) _ | exact ((br _).alloc (Nat.le_refl _) _).drew⟩
    · have e : z = 1 := by rw [← hz.out]; simp [ruleE, h2]
      subst e
      clear hz
      go_enter Try.func43, Try.ntmps43
      go_wp2
      go_ret
      exact ⟨by first | rfl | (simp; done), by first | exact (br _).alloc (Nat.le_refl _) _ | exact bn ((br _).alloc (Nat.le_refl _) _) _ | exact ((br _).alloc (Nat.le_refl _) _).drew⟩
  · have e : z = 1 := by rw [← hz.out]; simp [ruleE, h1]
    subst e
    clear hz
    go_enter Try.func43, Try.ntmps43
    go_wp2
    go_ret
    exact ⟨by first | rfl | (simp; done), by first | exact (br _).alloc (Nat.le_refl _) _ | exact bn ((br _).alloc (Nat.le_refl _) _) _ | exact ((br _).alloc (Nat.le_refl _) _).drew⟩
set_option maxHeartbeats 2000000 in
theorem rule_0 (k m d x z : Int) (w : World) (h1 : k ≠ 1) (h2 : k ≠ 2) (h3 : k ≠ 3) (hz : RowKit.Hid (ruleE (k, m, d, x) = z)) : Calls Try.prog 43 #[rV k m d x] w (IntB z w) := by
  have e : z = 7 := by rw [← hz.out]; simp [ruleE, h1, h2, h3]
  subst e
  clear hz
  go_enter Try.func43, Try.ntmps43
  go_wp2
  go_ret
  exact ⟨by first | rfl | (simp; done), by first | exact (br _).alloc (Nat.le_refl _) _ | exact bn ((br _).alloc (Nat.le_refl _) _) _ | exact ((br _).alloc (Nat.le_refl _) _).drew⟩
end Wk
end Go.Proofs.Ytjicpflgkhdppaa
/- Days of work: a rule by itself: the nth weekday of a month. -/
set_option linter.unusedVariables false
namespace Go.Proofs.Ytjicpflgkhdppaa
open Go.RowKit
namespace Wk
open Dt
set_option maxHeartbeats 4000000 in
theorem rule_2 (m d x z L : Int) (w : World) (hL : L = len0 2001 m) (hL0 : L = 0 ↔ (m < 1 ∨ 12 < m)) (hz : RowKit.Hid (ruleE (2, m, d, x) = z)) : Calls Try.prog 43 #[rV 2 m d x] w (IntB z w) := by
  have CL : RowKit.Hid (∀ w, Calls Try.prog 65 #[.int .i64 2001, .int .i64 m] w fun e w' => e = .returned (.int .i64 L) ∧ w = w') := Lib.hid (fun w => by rw [hL]; exact len0_any _ _ _)
  clear hL
  by_cases h0 : L = 0
  · have hm := hL0.1 h0
    have e : z = 3 := by rw [← hz.out]; rcases hm with hm | hm <;> simp [ruleE, hm]
    subst e
    subst h0
    clear hz hL0 hm
    go_enter Try.func43, Try.ntmps43
    go_wp2_with fail
    refine (CL.out _).mono ?_
    rintro en w1 ⟨rfl, e1⟩
    subst e1
    go_wp2
    go_ret
    exact ⟨by first | rfl | (simp; done), by first | exact (br _).alloc (Nat.le_refl _) _ | exact bn ((br _).alloc (Nat.le_refl _) _) _ | exact ((br _).alloc (Nat.le_refl _) _).drew⟩
  · have hm : ¬ (m < 1 ∨ 12 < m) := fun h => h0 (hL0.2 h)
    have k0 : (L == 0) = false := by simpa using h0
    clear hL0
    have go : ruleE (2, m, d, x) = (if d < 1 ∨ 5 < d ∨ x < 1 ∨ 7 < x then 3 else 0) := by
      have a : ¬ m < 1 := fun h => hm (.inl h)
      have b : ¬ 12 < m := fun h => hm (.inr h)
      simp [ruleE, a, b]
    rw [go] at hz
    clear go hm
    by_cases h1 : d < 1
    · have e : z = 3 := by rw [← hz.out]; simp [h1]
      subst e
      have g1 : decide (d < 1) = true := decide_eq_true h1
      clear hz
      go_enter Try.func43, Try.ntmps43
      go_wp2_with fail
      refine (CL.out _).mono ?_
      rintro en w1 ⟨rfl, e1⟩
      subst e1
      go_wp2
      go_ret
      exact ⟨by first | rfl | (simp; done), by first | exact (br _).alloc (Nat.le_refl _) _ | exact bn ((br _).alloc (Nat.le_refl _) _) _ | exact ((br _).alloc (Nat.le_refl _) _).drew⟩
    · have g1 : decide (d < 1) = false := decide_eq_false h1
      by_cases h2 : 5 < d
      · have e : z = 3 := by rw [← hz.out]; simp [h2]
        subst e
        have g2 : decide (5 < d) = true := decide_eq_true h2
        clear hz
        go_enter Try.func43, Try.ntmps43
        go_wp2_with fail
        refine (CL.out _).mono ?_
        rintro en w1 ⟨rfl, e1⟩
        subst e1
        go_wp2
        go_ret
        exact ⟨by first | rfl | (simp; done), by first | exact (br _).alloc (Nat.le_refl _) _ | exact bn ((br _).alloc (Nat.le_refl _) _) _ | exact ((br _).alloc (Nat.le_refl _) _).drew⟩
      · have g2 : decide (5 < d) = false := decide_eq_false h2
        by_cases h3 : x < 1
        · have e : z = 3 := by rw [← hz.out]; simp [h3]
          subst e
          have g3 : decide (x < 1) = true := decide_eq_true h3
          clear hz
          go_enter Try.func43, Try.ntmps43
          go_wp2_with fail
          refine (CL.out _).mono ?_
          rintro en w1 ⟨rfl, e1⟩
          subst e1
          go_wp2
          go_ret
          exact ⟨by first | rfl | (simp; done), by first | exact (br _).alloc (Nat.le_refl _) _ | exact bn ((br _).alloc (Nat.le_refl _) _) _ | exact ((br _).alloc (Nat.le_refl _) _).drew⟩
        · have g3 : decide (x < 1) = false := decide_eq_false h3
          by_cases h4 : 7 < x
          · have e : z = 3 := by rw [← hz.out]; simp [h4]
            subst e
            have g4 : decide (7 < x) = true := decide_eq_true h4
            clear hz
            go_enter Try.func43, Try.ntmps43
            go_wp2_with fail
            refine (CL.out _).mono ?_
            rintro en w1 ⟨rfl, e1⟩
            subst e1
            go_wp2
            go_ret
            exact ⟨by first | rfl | (simp; done), by first | exact (br _).alloc (Nat.le_refl _) _ | exact bn ((br _).alloc (Nat.le_refl _) _) _ | exact ((br _).alloc (Nat.le_refl _) _).drew⟩
          · have g4 : decide (7 < x) = false := decide_eq_false h4
            have e : z = 0 := by rw [← hz.out]; simp [h1, h2, h3, h4]
            subst e
            clear hz
            go_enter Try.func43, Try.ntmps43
            go_wp2_with fail
            refine (CL.out _).mono ?_
            rintro en w1 ⟨rfl, e1⟩
            subst e1
            go_wp2
            go_ret
            exact ⟨by first | rfl | (simp; done), by first | exact (br _).alloc (Nat.le_refl _) _ | exact bn ((br _).alloc (Nat.le_refl _) _) _ | exact ((br _).alloc (Nat.le_refl _) _).drew⟩
theorem rule_any (r : Rl) (w : World) : Calls Try.prog 43 #[rV r.1 r.2.1 r.2.2.1 r.2.2.2] w (IntB (ruleE r) w) := by
  obtain ⟨k, m, d, x⟩ := r
  by_cases h1 : k = 1
  · subst h1; exact rule_1 m d x _ w (Lib.hid rfl)
  · by_cases h2 : k = 2
    · subst h2
      refine rule_2 m d x _ _ w rfl ?_ (Lib.hid rfl)
      unfold len0
      by_cases h : (1 : Int) ≤ 2001 ∧ (2001 : Int) ≤ 9999 ∧ 1 ≤ m ∧ m ≤ 12
      · rw [if_pos h]
        have := len_bd 2001 m h.2.2.1 h.2.2.2
        omega
      · rw [if_neg h]; omega
    · by_cases h3 : k = 3
      · subst h3; exact rule_3 m d x _ w (Lib.hid rfl)
      · exact rule_0 k m d x _ w h1 h2 h3 (Lib.hid rfl)
end Wk
end Go.Proofs.Ytjicpflgkhdppaa
/- Days of work: a rule by itself, in the document. -/
set_option linter.unusedVariables false
namespace Go.Proofs.Ytjicpflgkhdppaa
open Go.RowKit
namespace Wk
open Dt
set_option maxHeartbeats 2000000 in
theorem ruleR_1 (m d x z : Int) (w : World) (hz : RowKit.Hid (ruleE (1, m, d, x) = z)) : Calls Try.prog 44 #[rV 1 m d x] w (IntB z w) := by
  by_cases h1 : d < 1
  · have hg : decide (d < 1) = true := decide_eq_true h1
    have e : z = 3 := by rw [← hz.out]; simp [ruleE, h1]
    subst e
    clear hz
    go_enter Try.func44, Try.ntmps44
    go_wp2_with fail
    go_quiet (fail)
    go_wp2
    go_ret
    exact ⟨by first | rfl | (simp; done), by first | exact (br _).alloc (Nat.le_refl _) _ | exact bn ((br _).alloc (Nat.le_refl _) _) _ | exact ((br _).alloc (Nat.le_refl _) _).drew⟩
  · have hg : decide (d < 1) = false := decide_eq_false h1
    by_cases h2 : len0 2001 m < d
    · have e : z = 3 := by rw [← hz.out]; simp [ruleE, h2]
      subst e
      have hg2 : decide (len0 2001 m < d) = true := decide_eq_true h2
      clear hz
      go_enter Try.func44, Try.ntmps44
      go_wp2_with fail
      go_quiet ((go_at_call 67; exact qz (monthDays_any _ _ _)))
      go_wp2
      go_ret
      exact ⟨by first | rfl | (simp; done), by first | exact (br _).alloc (Nat.le_refl _) _ | exact bn ((br _).alloc (Nat.le_refl _) _) _ | exact ((br _).alloc (Nat.le_refl _) _).drew⟩
    · have hg2 : decide (len0 2001 m < d) = false := decide_eq_false h2
      by_cases h3 : x = 0
      · subst h3
        have e : z = 0 := by rw [← hz.out]; simp [ruleE, h1, h2]
        subst e
        clear hz
        go_enter Try.func44, Try.ntmps44
        go_wp2_with fail
        go_quiet ((go_at_call 67; exact qz (monthDays_any _ _ _)))
        go_wp2
        go_ret
        exact ⟨by first | rfl | (simp; done), by first | exact (br _).alloc (Nat.le_refl _) _ | exact bn ((br _).alloc (Nat.le_refl _) _) _ | exact ((br _).alloc (Nat.le_refl _) _).drew⟩
      · have e : z = 1 := by rw [← hz.out]; simp [ruleE, h1, h2, h3]
        subst e
        clear hz
        go_enter Try.func44, Try.ntmps44
        go_wp2_with fail
        go_quiet ((go_at_call 67; exact qz (monthDays_any _ _ _)))
        go_wp2
        go_ret
        exact ⟨by first | rfl | (simp; done), by first | exact (br _).alloc (Nat.le_refl _) _ | exact bn ((br _).alloc (Nat.le_refl _) _) _ | exact ((br _).alloc (Nat.le_refl _) _).drew⟩
set_option maxHeartbeats 2000000 in
theorem ruleR_3 (m d x z : Int) (w : World) (hz : RowKit.Hid (ruleE (3, m, d, x) = z)) : Calls Try.prog 44 #[rV 3 m d x] w (IntB z w) := by
  by_cases h1 : m = 0
  · subst h1
    by_cases h2 : x = 0
    · subst h2
      by_cases h3 : d < -100
      · have e : z = 3 := by rw [← hz.out]; simp [ruleE, h3]
        subst e
        clear hz
        go_enter Try.func44, Try.ntmps44
        go_wp2
        go_ret
        exact ⟨by first | rfl | (simp; done), by first | exact (br _).alloc (Nat.le_refl _) _ | exact bn ((br _).alloc (Nat.le_refl _) _) _ | exact ((br _).alloc (Nat.le_refl _) _).drew⟩
      · by_cases h4 : 100 < d
        · have e : z = 3 := by rw [← hz.out]; simp [ruleE, h4]
          subst e
          clear hz
          go_enter Try.func44, Try.ntmps44
          go_wp2
          go_ret
          exact ⟨by first | rfl | (simp; done), by first | exact (br _).alloc (Nat.le_refl _) _ | exact bn ((br _).alloc (Nat.le_refl _) _) _ | exact ((br _).alloc (Nat.le_refl _) _).drew⟩
        · have e : z = 0 := by rw [← hz.out]; simp [ruleE, h3, h4]
          subst e
          clear hz
          go_enter Try.func44, Try.ntmps44
          go_wp2
          go_ret
          exact ⟨by first | rfl | (simp; done), by first | exact (br _).alloc (Nat.le_refl _) _ | exact bn ((br _).alloc (Nat.le_refl _) _) _ | exact ((br _).alloc (Nat.le_refl _) _).drew⟩
    · have e : z = 1 := by rw [← hz.out]; simp [ruleE, h2]
      subst e
      clear hz
      go_enter Try.func44, Try.ntmps44
      go_wp2
      go_ret
      exact ⟨by first | rfl | (simp; done), by first | exact (br _).alloc (Nat.le_refl _) _ | exact bn ((br _).alloc (Nat.le_refl _) _) _ | exact ((br _).alloc (Nat.le_refl _) _).drew⟩
  · have e : z = 1 := by rw [← hz.out]; simp [ruleE, h1]
    subst e
    clear hz
    go_enter Try.func44, Try.ntmps44
    go_wp2
    go_ret
    exact ⟨by first | rfl | (simp; done), by first | exact (br _).alloc (Nat.le_refl _) _ | exact bn ((br _).alloc (Nat.le_refl _) _) _ | exact ((br _).alloc (Nat.le_refl _) _).drew⟩
set_option maxHeartbeats 2000000 in
theorem ruleR_0 (k m d x z : Int) (w : World) (h1 : k ≠ 1) (h2 : k ≠ 2) (h3 : k ≠ 3) (hz : RowKit.Hid (ruleE (k, m, d, x) = z)) : Calls Try.prog 44 #[rV k m d x] w (IntB z w) := by
  have e : z = 7 := by rw [← hz.out]; simp [ruleE, h1, h2, h3]
  subst e
  clear hz
  go_enter Try.func44, Try.ntmps44
  go_wp2
  go_ret
  exact ⟨by first | rfl | (simp; done), by first | exact (br _).alloc (Nat.le_refl _) _ | exact bn ((br _).alloc (Nat.le_refl _) _) _ | exact ((br _).alloc (Nat.le_refl _) _).drew⟩
set_option maxHeartbeats 4000000 in
theorem ruleR_2 (m d x z : Int) (w : World) (hz : RowKit.Hid (ruleE (2, m, d, x) = z)) : Calls Try.prog 44 #[rV 2 m d x] w (IntB z w) := by
  by_cases c1 : m < 1
  · have e : z = 3 := by rw [← hz.out]; simp [ruleE, c1]
    subst e
    clear hz
    go_enter Try.func44, Try.ntmps44
    go_wp2
    go_ret
    exact ⟨by first | rfl | (simp; done), by first | exact (br _).alloc (Nat.le_refl _) _ | exact bn ((br _).alloc (Nat.le_refl _) _) _ | exact ((br _).alloc (Nat.le_refl _) _).drew⟩
  · skip
    by_cases c2 : 12 < m
    · have e : z = 3 := by rw [← hz.out]; simp [ruleE, c2]
      subst e
      clear hz
      go_enter Try.func44, Try.ntmps44
      go_wp2
      go_ret
      exact ⟨by first | rfl | (simp; done), by first | exact (br _).alloc (Nat.le_refl _) _ | exact bn ((br _).alloc (Nat.le_refl _) _) _ | exact ((br _).alloc (Nat.le_refl _) _).drew⟩
    · skip
      by_cases c3 : d < 1
      · have e : z = 3 := by rw [← hz.out]; simp [ruleE, c3]
        subst e
        clear hz
        go_enter Try.func44, Try.ntmps44
        go_wp2
        go_ret
        exact ⟨by first | rfl | (simp; done), by first | exact (br _).alloc (Nat.le_refl _) _ | exact bn ((br _).alloc (Nat.le_refl _) _) _ | exact ((br _).alloc (Nat.le_refl _) _).drew⟩
      · skip
        by_cases c4 : 5 < d
        · have e : z = 3 := by rw [← hz.out]; simp [ruleE, c4]
          subst e
          clear hz
          go_enter Try.func44, Try.ntmps44
          go_wp2
          go_ret
          exact ⟨by first | rfl | (simp; done), by first | exact (br _).alloc (Nat.le_refl _) _ | exact bn ((br _).alloc (Nat.le_refl _) _) _ | exact ((br _).alloc (Nat.le_refl _) _).drew⟩
        · skip
          by_cases c5 : x < 1
          · have e : z = 3 := by rw [← hz.out]; simp [ruleE, c5]
            subst e
            clear hz
            go_enter Try.func44, Try.ntmps44
            go_wp2
            go_ret
            exact ⟨by first | rfl | (simp; done), by first | exact (br _).alloc (Nat.le_refl _) _ | exact bn ((br _).alloc (Nat.le_refl _) _) _ | exact ((br _).alloc (Nat.le_refl _) _).drew⟩
          · skip
            by_cases c6 : 7 < x
            · have e : z = 3 := by rw [← hz.out]; simp [ruleE, c6]
              subst e
              clear hz
              go_enter Try.func44, Try.ntmps44
              go_wp2
              go_ret
              exact ⟨by first | rfl | (simp; done), by first | exact (br _).alloc (Nat.le_refl _) _ | exact bn ((br _).alloc (Nat.le_refl _) _) _ | exact ((br _).alloc (Nat.le_refl _) _).drew⟩
            · skip
              have e : z = 0 := by rw [← hz.out]; simp [ruleE, c1, c2, c3, c4, c5, c6]
              subst e
              clear hz
              go_enter Try.func44, Try.ntmps44
              go_wp2
              go_ret
              exact ⟨by first | rfl | (simp; done), by first | exact (br _).alloc (Nat.le_refl _) _ | exact bn ((br _).alloc (Nat.le_refl _) _) _ | exact ((br _).alloc (Nat.le_refl _) _).drew⟩
theorem ruleR_any (r : Rl) (w : World) : Calls Try.prog 44 #[rV r.1 r.2.1 r.2.2.1 r.2.2.2] w (IntB (ruleE r) w) := by
  obtain ⟨k, m, d, x⟩ := r
  by_cases h1 : k = 1
  · subst h1; exact ruleR_1 m d x _ w (Lib.hid rfl)
  · by_cases h2 : k = 2
    · subst h2; exact ruleR_2 m d x _ w (Lib.hid rfl)
    · by_cases h3 : k = 3
      · subst h3; exact ruleR_3 m d x _ w (Lib.hid rfl)
      · exact ruleR_0 k m d x _ w h1 h2 h3 (Lib.hid rfl)
end Wk
end Go.Proofs.Ytjicpflgkhdppaa
/- Days of work: rules as an element type. -/
set_option linter.unusedVariables false
namespace Go.Proofs.Ytjicpflgkhdppaa
open Go.RowKit
namespace Wk
def eRl (r : Rl) : List Value := [.int .i64 r.1, .int .i64 r.2.1, .int .i64 r.2.2.1, .int .i64 r.2.2.2]
@[reducible] def elRl : El Rl where
  k := 4
  enc := eRl
  te := 72
  ts := 23
  bytes := 32
  zero := .agg #[.int .i64 0, .int .i64 0, .int .i64 0, .int .i64 0]
  k0 := by decide
  zs := rfl
  len := fun _ => rfl
  one := fun x y h => by simp [eRl] at h; rcases h with rfl | rfl | rfl | rfl <;> rfl
  info := by kernel_rfl
  und := Try.underlying23
/-- a calendar as a value: seven weekdays, and its rules' slice -/
abbrev cV (rest : List Bool) (v : Value) : Value := .agg (rest.map Value.bool ++ [v]).toArray
end Wk
end Go.Proofs.Ytjicpflgkhdppaa
