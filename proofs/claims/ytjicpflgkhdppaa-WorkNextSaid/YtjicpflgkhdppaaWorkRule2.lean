/- Days of work: a rule by itself: the nth weekday of a month. -/
import Derived.Test.YtjicpflgkhdppaaWorkRule
set_option linter.unusedSimpArgs false
set_option linter.unusedVariables false
namespace Go.Proofs.Ytjicpflgkhdppaa
open Go.RowKit
namespace Wk
open Dt
set_option maxHeartbeats 4000000 in
theorem rule_2 (m d x z L : Int) (w : World) (hL : L = len0 2001 m) (hL0 : L = 0 ↔ (m < 1 ∨ 12 < m)) (hz : RowKit.Hid (ruleE (2, m, d, x) = z)) : Calls Try.prog 43 #[rV 2 m d x] w (IntB z w) := by
  have CL : RowKit.Hid (∀ w, Calls Try.prog 65 #[.int .i64 2001, .int .i64 m] w fun e w' => e = .returned (.int .i64 L) ∧ w = w') := Lib.hid (fun w => by rw [hL]; exact len0_any _ _ _)
  clear hL
  by_cases h0 : L = 0
  · have hm := hL0.1 h0
    have e : z = 3 := by rw [← hz.out]; rcases hm with hm | hm <;> simp [ruleE, hm]
    subst e
    subst h0
    clear hz hL0 hm
    go_enter Try.func43, Try.ntmps43
    go_wp2_with fail
    refine (CL.out _).mono ?_
    rintro en w1 ⟨rfl, e1⟩
    subst e1
    go_wp2
    go_ret
    exact ⟨by first | rfl | (simp; done), by first | exact (br _).alloc (Nat.le_refl _) _ | exact bn ((br _).alloc (Nat.le_refl _) _) _ | exact ((br _).alloc (Nat.le_refl _) _).drew⟩
  · have hm : ¬ (m < 1 ∨ 12 < m) := fun h => h0 (hL0.2 h)
    have k0 : (L == 0) = false := by simpa using h0
    clear hL0
    have go : ruleE (2, m, d, x) = (if d < 1 ∨ 5 < d ∨ x < 1 ∨ 7 < x then 3 else 0) := by
      have a : ¬ m < 1 := fun h => hm (.inl h)
      have b : ¬ 12 < m := fun h => hm (.inr h)
      simp [ruleE, a, b]
    rw [go] at hz
    clear go hm
    by_cases h1 : d < 1
    · have e : z = 3 := by rw [← hz.out]; simp [h1]
      subst e
      have g1 : decide (d < 1) = true := decide_eq_true h1
      clear hz
      go_enter Try.func43, Try.ntmps43
      go_wp2_with fail
      refine (CL.out _).mono ?_
      rintro en w1 ⟨rfl, e1⟩
      subst e1
      go_wp2
      go_ret
      exact ⟨by first | rfl | (simp; done), by first | exact (br _).alloc (Nat.le_refl _) _ | exact bn ((br _).alloc (Nat.le_refl _) _) _ | exact ((br _).alloc (Nat.le_refl _) _).drew⟩
    · have g1 : decide (d < 1) = false := decide_eq_false h1
      by_cases h2 : 5 < d
      · have e : z = 3 := by rw [← hz.out]; simp [h2]
        subst e
        have g2 : decide (5 < d) = true := decide_eq_true h2
        clear hz
        go_enter Try.func43, Try.ntmps43
        go_wp2_with fail
        refine (CL.out _).mono ?_
        rintro en w1 ⟨rfl, e1⟩
        subst e1
        go_wp2
        go_ret
        exact ⟨by first | rfl | (simp; done), by first | exact (br _).alloc (Nat.le_refl _) _ | exact bn ((br _).alloc (Nat.le_refl _) _) _ | exact ((br _).alloc (Nat.le_refl _) _).drew⟩
      · have g2 : decide (5 < d) = false := decide_eq_false h2
        by_cases h3 : x < 1
        · have e : z = 3 := by rw [← hz.out]; simp [h3]
          subst e
          have g3 : decide (x < 1) = true := decide_eq_true h3
          clear hz
          go_enter Try.func43, Try.ntmps43
          go_wp2_with fail
          refine (CL.out _).mono ?_
          rintro en w1 ⟨rfl, e1⟩
          subst e1
          go_wp2
          go_ret
          exact ⟨by first | rfl | (simp; done), by first | exact (br _).alloc (Nat.le_refl _) _ | exact bn ((br _).alloc (Nat.le_refl _) _) _ | exact ((br _).alloc (Nat.le_refl _) _).drew⟩
        · have g3 : decide (x < 1) = false := decide_eq_false h3
          by_cases h4 : 7 < x
          · have e : z = 3 := by rw [← hz.out]; simp [h4]
            subst e
            have g4 : decide (7 < x) = true := decide_eq_true h4
            clear hz
            go_enter Try.func43, Try.ntmps43
            go_wp2_with fail
            refine (CL.out _).mono ?_
            rintro en w1 ⟨rfl, e1⟩
            subst e1
            go_wp2
            go_ret
            exact ⟨by first | rfl | (simp; done), by first | exact (br _).alloc (Nat.le_refl _) _ | exact bn ((br _).alloc (Nat.le_refl _) _) _ | exact ((br _).alloc (Nat.le_refl _) _).drew⟩
          · have g4 : decide (7 < x) = false := decide_eq_false h4
            have e : z = 0 := by rw [← hz.out]; simp [h1, h2, h3, h4]
            subst e
            clear hz
            go_enter Try.func43, Try.ntmps43
            go_wp2_with fail
            refine (CL.out _).mono ?_
            rintro en w1 ⟨rfl, e1⟩
            subst e1
            go_wp2
            go_ret
            exact ⟨by first | rfl | (simp; done), by first | exact (br _).alloc (Nat.le_refl _) _ | exact bn ((br _).alloc (Nat.le_refl _) _) _ | exact ((br _).alloc (Nat.le_refl _) _).drew⟩
theorem rule_any (r : Rl) (w : World) : Calls Try.prog 43 #[rV r.1 r.2.1 r.2.2.1 r.2.2.2] w (IntB (ruleE r) w) := by
  obtain ⟨k, m, d, x⟩ := r
  by_cases h1 : k = 1
  · subst h1; exact rule_1 m d x _ w (Lib.hid rfl)
  · by_cases h2 : k = 2
    · subst h2
      refine rule_2 m d x _ _ w rfl ?_ (Lib.hid rfl)
      unfold len0
      by_cases h : (1 : Int) ≤ 2001 ∧ (2001 : Int) ≤ 9999 ∧ 1 ≤ m ∧ m ≤ 12
      · rw [if_pos h]
        have := len_bd 2001 m h.2.2.1 h.2.2.2
        omega
      · rw [if_neg h]; omega
    · by_cases h3 : k = 3
      · subst h3; exact rule_3 m d x _ w (Lib.hid rfl)
      · exact rule_0 k m d x _ w h1 h2 h3 (Lib.hid rfl)
end Wk
end Go.Proofs.Ytjicpflgkhdppaa
