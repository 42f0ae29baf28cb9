/- Days of work: a rule by itself, in the document. -/
import Derived.Test.YtjicpflgkhdppaaWorkRule2
import Derived.BigQuiet
set_option linter.unusedSimpArgs false
set_option linter.unusedVariables false
namespace Go.Proofs.Ytjicpflgkhdppaa
open Go.RowKit
namespace Wk
open Dt
set_option maxHeartbeats 2000000 in
theorem ruleR_1 (m d x z : Int) (w : World) (hz : RowKit.Hid (ruleE (1, m, d, x) = z)) : Calls Try.prog 44 #[rV 1 m d x] w (IntB z w) := by
  by_cases h1 : d < 1
  · have hg : decide (d < 1) = true := decide_eq_true h1
    have e : z = 3 := by rw [← hz.out]; simp [ruleE, h1]
    subst e
    clear hz
    go_enter Try.func44, Try.ntmps44
    go_wp2_with fail
    go_quiet (fail)
    go_wp2
    go_ret
    exact ⟨by first | rfl | (simp; done), by first | exact (br _).alloc (Nat.le_refl _) _ | exact bn ((br _).alloc (Nat.le_refl _) _) _ | exact ((br _).alloc (Nat.le_refl _) _).drew⟩
  · have hg : decide (d < 1) = false := decide_eq_false h1
    by_cases h2 : len0 2001 m < d
    · have e : z = 3 := by rw [← hz.out]; simp [ruleE, h2]
      subst e
      have hg2 : decide (len0 2001 m < d) = true := decide_eq_true h2
      clear hz
      go_enter Try.func44, Try.ntmps44
      go_wp2_with fail
      go_quiet ((go_at_call 67; exact qz (monthDays_any _ _ _)))
      go_wp2
      go_ret
      exact ⟨by first | rfl | (simp; done), by first | exact (br _).alloc (Nat.le_refl _) _ | exact bn ((br _).alloc (Nat.le_refl _) _) _ | exact ((br _).alloc (Nat.le_refl _) _).drew⟩
    · have hg2 : decide (len0 2001 m < d) = false := decide_eq_false h2
      by_cases h3 : x = 0
      · subst h3
        have e : z = 0 := by rw [← hz.out]; simp [ruleE, h1, h2]
        subst e
        clear hz
        go_enter Try.func44, Try.ntmps44
        go_wp2_with fail
        go_quiet ((go_at_call 67; exact qz (monthDays_any _ _ _)))
        go_wp2
        go_ret
        exact ⟨by first | rfl | (simp; done), by first | exact (br _).alloc (Nat.le_refl _) _ | exact bn ((br _).alloc (Nat.le_refl _) _) _ | exact ((br _).alloc (Nat.le_refl _) _).drew⟩
      · have e : z = 1 := by rw [← hz.out]; simp [ruleE, h1, h2, h3]
        subst e
        clear hz
        go_enter Try.func44, Try.ntmps44
        go_wp2_with fail
        go_quiet ((go_at_call 67; exact qz (monthDays_any _ _ _)))
        go_wp2
        go_ret
        exact ⟨by first | rfl | (simp; done), by first | exact (br _).alloc (Nat.le_refl _) _ | exact bn ((br _).alloc (Nat.le_refl _) _) _ | exact ((br _).alloc (Nat.le_refl _) _).drew⟩
set_option maxHeartbeats 2000000 in
theorem ruleR_3 (m d x z : Int) (w : World) (hz : RowKit.Hid (ruleE (3, m, d, x) = z)) : Calls Try.prog 44 #[rV 3 m d x] w (IntB z w) := by
  by_cases h1 : m = 0
  · subst h1
    by_cases h2 : x = 0
    · subst h2
      by_cases h3 : d < -100
      · have e : z = 3 := by rw [← hz.out]; simp [ruleE, h3]
        subst e
        clear hz
        go_enter Try.func44, Try.ntmps44
        go_wp2
        go_ret
        exact ⟨by first | rfl | (simp; done), by first | exact (br _).alloc (Nat.le_refl _) _ | exact bn ((br _).alloc (Nat.le_refl _) _) _ | exact ((br _).alloc (Nat.le_refl _) _).drew⟩
      · by_cases h4 : 100 < d
        · have e : z = 3 := by rw [← hz.out]; simp [ruleE, h4]
          subst e
          clear hz
          go_enter Try.func44, Try.ntmps44
          go_wp2
          go_ret
          exact ⟨by first | rfl | (simp; done), by first | exact (br _).alloc (Nat.le_refl _) _ | exact bn ((br _).alloc (Nat.le_refl _) _) _ | exact ((br _).alloc (Nat.le_refl _) _).drew⟩
        · have e : z = 0 := by rw [← hz.out]; simp [ruleE, h3, h4]
          subst e
          clear hz
          go_enter Try.func44, Try.ntmps44
          go_wp2
          go_ret
          exact ⟨by first | rfl | (simp; done), by first | exact (br _).alloc (Nat.le_refl _) _ | exact bn ((br _).alloc (Nat.le_refl _) _) _ | exact ((br _).alloc (Nat.le_refl _) _).drew⟩
    · have e : z = 1 := by rw [← hz.out]; simp [ruleE, h2]
      subst e
      clear hz
      go_enter Try.func44, Try.ntmps44
      go_wp2
      go_ret
      exact ⟨by first | rfl | (simp; done), by first | exact (br _).alloc (Nat.le_refl _) _ | exact bn ((br _).alloc (Nat.le_refl _) _) _ | exact ((br _).alloc (Nat.le_refl _) _).drew⟩
  · have e : z = 1 := by rw [← hz.out]; simp [ruleE, h1]
    subst e
    clear hz
    go_enter Try.func44, Try.ntmps44
    go_wp2
    go_ret
    exact ⟨by first | rfl | (simp; done), by first | exact (br _).alloc (Nat.le_refl _) _ | exact bn ((br _).alloc (Nat.le_refl _) _) _ | exact ((br _).alloc (Nat.le_refl _) _).drew⟩
set_option maxHeartbeats 2000000 in
theorem ruleR_0 (k m d x z : Int) (w : World) (h1 : k ≠ 1) (h2 : k ≠ 2) (h3 : k ≠ 3) (hz : RowKit.Hid (ruleE (k, m, d, x) = z)) : Calls Try.prog 44 #[rV k m d x] w (IntB z w) := by
  have e : z = 7 := by rw [← hz.out]; simp [ruleE, h1, h2, h3]
  subst e
  clear hz
  go_enter Try.func44, Try.ntmps44
  go_wp2
  go_ret
  exact ⟨by first | rfl | (simp; done), by first | exact (br _).alloc (Nat.le_refl _) _ | exact bn ((br _).alloc (Nat.le_refl _) _) _ | exact ((br _).alloc (Nat.le_refl _) _).drew⟩
set_option maxHeartbeats 4000000 in
theorem ruleR_2 (m d x z : Int) (w : World) (hz : RowKit.Hid (ruleE (2, m, d, x) = z)) : Calls Try.prog 44 #[rV 2 m d x] w (IntB z w) := by
  by_cases c1 : m < 1
  · have e : z = 3 := by rw [← hz.out]; simp [ruleE, c1]
    subst e
    clear hz
    go_enter Try.func44, Try.ntmps44
    go_wp2
    go_ret
    exact ⟨by first | rfl | (simp; done), by first | exact (br _).alloc (Nat.le_refl _) _ | exact bn ((br _).alloc (Nat.le_refl _) _) _ | exact ((br _).alloc (Nat.le_refl _) _).drew⟩
  · skip
    by_cases c2 : 12 < m
    · have e : z = 3 := by rw [← hz.out]; simp [ruleE, c2]
      subst e
      clear hz
      go_enter Try.func44, Try.ntmps44
      go_wp2
      go_ret
      exact ⟨by first | rfl | (simp; done), by first | exact (br _).alloc (Nat.le_refl _) _ | exact bn ((br _).alloc (Nat.le_refl _) _) _ | exact ((br _).alloc (Nat.le_refl _) _).drew⟩
    · skip
      by_cases c3 : d < 1
      · have e : z = 3 := by rw [← hz.out]; simp [ruleE, c3]
        subst e
        clear hz
        go_enter Try.func44, Try.ntmps44
        go_wp2
        go_ret
        exact ⟨by first | rfl | (simp; done), by first | exact (br _).alloc (Nat.le_refl _) _ | exact bn ((br _).alloc (Nat.le_refl _) _) _ | exact ((br _).alloc (Nat.le_refl _) _).drew⟩
      · skip
        by_cases c4 : 5 < d
        · have e : z = 3 := by rw [← hz.out]; simp [ruleE, c4]
          subst e
          clear hz
          go_enter Try.func44, Try.ntmps44
          go_wp2
          go_ret
          exact ⟨by first | rfl | (simp; done), by first | exact (br _).alloc (Nat.le_refl _) _ | exact bn ((br _).alloc (Nat.le_refl _) _) _ | exact ((br _).alloc (Nat.le_refl _) _).drew⟩
        · skip
          by_cases c5 : x < 1
          · have e : z = 3 := by rw [← hz.out]; simp [ruleE, c5]
            subst e
            clear hz
            go_enter Try.func44, Try.ntmps44
            go_wp2
            go_ret
            exact ⟨by first | rfl | (simp; done), by first | exact (br _).alloc (Nat.le_refl _) _ | exact bn ((br _).alloc (Nat.le_refl _) _) _ | exact ((br _).alloc (Nat.le_refl _) _).drew⟩
          · skip
            by_cases c6 : 7 < x
            · have e : z = 3 := by rw [← hz.out]; simp [ruleE, c6]
              subst e
              clear hz
              go_enter Try.func44, Try.ntmps44
              go_wp2
              go_ret
              exact ⟨by first | rfl | (simp; done), by first | exact (br _).alloc (Nat.le_refl _) _ | exact bn ((br _).alloc (Nat.le_refl _) _) _ | exact ((br _).alloc (Nat.le_refl _) _).drew⟩
            · skip
              have e : z = 0 := by rw [← hz.out]; simp [ruleE, c1, c2, c3, c4, c5, c6]
              subst e
              clear hz
              go_enter Try.func44, Try.ntmps44
              go_wp2
              go_ret
              exact ⟨by first | rfl | (simp; done), by first | exact (br _).alloc (Nat.le_refl _) _ | exact bn ((br _).alloc (Nat.le_refl _) _) _ | exact ((br _).alloc (Nat.le_refl _) _).drew⟩
theorem ruleR_any (r : Rl) (w : World) : Calls Try.prog 44 #[rV r.1 r.2.1 r.2.2.1 r.2.2.2] w (IntB (ruleE r) w) := by
  obtain ⟨k, m, d, x⟩ := r
  by_cases h1 : k = 1
  · subst h1; exact ruleR_1 m d x _ w (Lib.hid rfl)
  · by_cases h2 : k = 2
    · subst h2; exact ruleR_2 m d x _ w (Lib.hid rfl)
    · by_cases h3 : k = 3
      · subst h3; exact ruleR_3 m d x _ w (Lib.hid rfl)
      · exact ruleR_0 k m d x _ w h1 h2 h3 (Lib.hid rfl)
end Wk
end Go.Proofs.Ytjicpflgkhdppaa
