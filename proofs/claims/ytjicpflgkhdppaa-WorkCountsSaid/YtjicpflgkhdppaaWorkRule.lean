/- Days of work: a rule by itself. -/
import Derived.Test.YtjicpflgkhdppaaWorkPlain
import Derived.BigQuiet
set_option linter.unusedSimpArgs false
set_option linter.unusedVariables false
namespace Go.Proofs.Ytjicpflgkhdppaa
open Go.RowKit
namespace Wk
open Dt
abbrev rV (k m d x : Int) : Value := .agg #[.int .i64 k, .int .i64 m, .int .i64 d, .int .i64 x]
abbrev IntB (z : Int) (w : World) (e : Ending) (w' : World) : Prop := e = .returned (.int .i64 z) ∧ Below w.heap.size w w'
set_option maxHeartbeats 2000000 in
theorem rule_1 (m d x z : Int) (w : World) (hz : RowKit.Hid (ruleE (1, m, d, x) = z)) : Calls Try.prog 43 #[rV 1 m d x] w (IntB z w) := by
  by_cases h1 : d < 1
  · have hg : decide (d < 1) = true := decide_eq_true h1
    have e : z = 3 := by rw [← hz.out]; simp [ruleE, h1]
    subst e
    clear hz
    go_enter Try.func43, Try.ntmps43
    go_wp2_with fail
    go_quiet (fail)
    go_wp2
    go_ret
    exact ⟨by first | rfl | (simp; done), by first | exact (br _).alloc (Nat.le_refl _) _ | exact bn ((br _).alloc (Nat.le_refl _) _) _ | exact ((br _).alloc (Nat.le_refl _) _).drew⟩
  · have hg : decide (d < 1) = false := decide_eq_false h1
    by_cases h2 : len0 2001 m < d
    · have e : z = 3 := by rw [← hz.out]; simp [ruleE, h2]
      subst e
      have hg2 : decide (len0 2001 m < d) = true := decide_eq_true h2
      clear hz
      go_enter Try.func43, Try.ntmps43
      go_wp2_with fail
      go_quiet ((go_at_call 65; exact qz (len0_any _ _ _)))
      go_wp2
      go_ret
      exact ⟨by first | rfl | (simp; done), by first | exact (br _).alloc (Nat.le_refl _) _ | exact bn ((br _).alloc (Nat.le_refl _) _) _ | exact ((br _).alloc (Nat.le_refl _) _).drew⟩
    · have hg2 : decide (len0 2001 m < d) = false := decide_eq_false h2
      by_cases h3 : x = 0
      · subst h3
        have e : z = 0 := by rw [← hz.out]; simp [ruleE, h1, h2]
        subst e
        clear hz
        go_enter Try.func43, Try.ntmps43
        go_wp2_with fail
        go_quiet ((go_at_call 65; exact qz (len0_any _ _ _)))
        go_wp2
        go_ret
        exact ⟨by first | rfl | (simp; done), by first | exact (br _).alloc (Nat.le_refl _) _ | exact bn ((br _).alloc (Nat.le_refl _) _) _ | exact ((br _).alloc (Nat.le_refl _) _).drew⟩
      · have e : z = 1 := by rw [← hz.out]; simp [ruleE, h1, h2, h3]
        subst e
        clear hz
        go_enter Try.func43, Try.ntmps43
        go_wp2_with fail
        go_quiet ((go_at_call 65; exact qz (len0_any _ _ _)))
        go_wp2
        go_ret
        exact ⟨by first | rfl | (simp; done), by first | exact (br _).alloc (Nat.le_refl _) _ | exact bn ((br _).alloc (Nat.le_refl _) _) _ | exact ((br _).alloc (Nat.le_refl _) _).drew⟩
set_option maxHeartbeats 2000000 in
theorem rule_3 (m d x z : Int) (w : World) (hz : RowKit.Hid (ruleE (3, m, d, x) = z)) : Calls Try.prog 43 #[rV 3 m d x] w (IntB z w) := by
  by_cases h1 : m = 0
  · subst h1
    by_cases h2 : x = 0
    · subst h2
      by_cases h3 : d < -100
      · have e : z = 3 := by rw [← hz.out]; simp [ruleE, h3]
        subst e
        clear hz
        go_enter Try.func43, Try.ntmps43
        go_wp2
        go_ret
        exact ⟨by first | rfl | (simp; done), by first | exact (br _).alloc (Nat.le_refl _) _ | exact bn ((br _).alloc (Nat.le_refl _) _) _ | exact ((br _).alloc (Nat.le_refl _) _).drew⟩
      · by_cases h4 : 100 < d
        · have e : z = 3 := by rw [← hz.out]; simp [ruleE, h4]
          subst e
          clear hz
          go_enter Try.func43, Try.ntmps43
          go_wp2
          go_ret
          exact ⟨by first | rfl | (simp; done), by first | exact (br _).alloc (Nat.le_refl _) _ | exact bn ((br _).alloc (Nat.le_refl _) _) _ | exact ((br _).alloc (Nat.le_refl _) _).drew⟩
        · have e : z = 0 := by rw [← hz.out]; simp [ruleE, h3, h4]
          subst e
          clear hz
          go_enter Try.func43, Try.ntmps43
          go_wp2
          go_ret
          exact ⟨by first | rfl | (simp; done), by first | exact (br _).alloc (Nat.le_refl _) _ | exact bn ((br _).alloc (Nat.le_refl _) _) _ | exact ((br _).alloc (Nat.le_refl _) _).drew⟩
    · have e : z = 1 := by rw [← hz.out]; simp [ruleE, h2]
      subst e
      clear hz
      go_enter Try.func43, Try.ntmps43
      go_wp2
      go_ret
      exact ⟨by first | rfl | (simp; done), by first | exact (br _).alloc (Nat.le_refl _) _ | exact bn ((br _).alloc (Nat.le_refl _) _) _ | exact ((br _).alloc (Nat.le_refl _) _).drew⟩
  · have e : z = 1 := by rw [← hz.out]; simp [ruleE, h1]
    subst e
    clear hz
    go_enter Try.func43, Try.ntmps43
    go_wp2
    go_ret
    exact ⟨by first | rfl | (simp; done), by first | exact (br _).alloc (Nat.le_refl _) _ | exact bn ((br _).alloc (Nat.le_refl _) _) _ | exact ((br _).alloc (Nat.le_refl _) _).drew⟩
set_option maxHeartbeats 2000000 in
theorem rule_0 (k m d x z : Int) (w : World) (h1 : k ≠ 1) (h2 : k ≠ 2) (h3 : k ≠ 3) (hz : RowKit.Hid (ruleE (k, m, d, x) = z)) : Calls Try.prog 43 #[rV k m d x] w (IntB z w) := by
  have e : z = 7 := by rw [← hz.out]; simp [ruleE, h1, h2, h3]
  subst e
  clear hz
  go_enter Try.func43, Try.ntmps43
  go_wp2
  go_ret
  exact ⟨by first | rfl | (simp; done), by first | exact (br _).alloc (Nat.le_refl _) _ | exact bn ((br _).alloc (Nat.le_refl _) _) _ | exact ((br _).alloc (Nat.le_refl _) _).drew⟩
end Wk
end Go.Proofs.Ytjicpflgkhdppaa
