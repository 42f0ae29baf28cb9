/- Package pence: the functions and their contracts. -/
import Derived.Test.YtcppeligeodomaaProg
import Derived.Test.YtcppeligeodomaaPencePlain
import Derived.Test.YtcppeligeodomaaBase2
import Derived.Test.YtcppeligeodomaaRd
set_option linter.unusedVariables false
namespace Go.Proofs.Ytcppeligeodomaa
open Go.RowKit
namespace Pn
theorem is_any (p : Int) (b : Bool) (w : World) (h : decide (isA p) = b) : Calls Try.prog 54 #[.int .i64 p] w fun e w' => e = .returned (.bool b) ∧ w = w' := by
  by_cases hp : isA p
  · obtain rfl : b = true := by rw [← h]; exact decide_eq_true hp
    obtain ⟨h1, h2⟩ := hp
    clear h
    go_enter Try.func54, Try.ntmps54
    go_wp2
    go_ret
    exact ⟨by first | rfl | (simp; done) | (simp; omega), rfl⟩
  · obtain rfl : b = false := by rw [← h]; exact decide_eq_false hp
    rcases (show p < -1099511627776 ∨ (-1099511627776 ≤ p ∧ 1099511627776 < p) by unfold isA at hp; omega) with h1 | ⟨h1, h2⟩
    · clear h hp
      go_enter Try.func54, Try.ntmps54
      go_wp2
      go_ret
      exact ⟨by first | rfl | (simp; done) | (simp; omega), rfl⟩
    · clear h hp
      go_enter Try.func54, Try.ntmps54
      go_wp2
      go_ret
      exact ⟨by first | rfl | (simp; done) | (simp; omega), rfl⟩
def ToldQ (p : Int) (w : World) (e : Ending) (w' : World) : Prop := e = .returned (.tuple #[.int .i64 (told p).1, .int .i64 (told p).2]) ∧ w = w'
theorem told_any (p : Int) (w : World) : Calls Try.prog 55 #[.int .i64 p] w (ToldQ p w) := by
  by_cases h : isA p
  · have ht : told p = (p, 0) := by unfold told; rw [if_pos h]
    have Ht := Lib.hid ht; clear ht
    have H := Lib.hid h; clear h
    go_enter Try.func55, Try.ntmps55
    go_wp2_with fail
    refine (is_any p true _ (decide_eq_true H.out)).mono ?_
    rintro en w1 ⟨rfl, rfl⟩
    go_wp2
    go_ret2
    exact ⟨by rw [Ht.out]; rfl, rfl⟩
  · have ht : told p = (0, 8) := by unfold told; rw [if_neg h]
    have Ht := Lib.hid ht; clear ht
    have H := Lib.hid h; clear h
    go_enter Try.func55, Try.ntmps55
    go_wp2_with fail
    refine (is_any p false _ (decide_eq_false H.out)).mono ?_
    rintro en w1 ⟨rfl, rfl⟩
    go_wp2
    go_ret2
    exact ⟨by rw [Ht.out]; rfl, rfl⟩
theorem rounder1 (w : World) : Calls Try.prog 53 #[.int .i64 1] w fun e w' => e = .returned (.func (.func 62) #[] #[]) ∧ w = w' := by
  go_enter Try.func53, Try.ntmps53
  go_wp2
  go_ret
  exact ⟨rfl, rfl⟩
theorem rounder2 (w : World) : Calls Try.prog 53 #[.int .i64 2] w fun e w' => e = .returned (.func (.func 63) #[] #[]) ∧ w = w' := by
  go_enter Try.func53, Try.ntmps53
  go_wp2
  go_ret
  exact ⟨rfl, rfl⟩
theorem rounder3 (w : World) : Calls Try.prog 53 #[.int .i64 3] w fun e w' => e = .returned (.func (.func 64) #[] #[]) ∧ w = w' := by
  go_enter Try.func53, Try.ntmps53
  go_wp2
  go_ret
  exact ⟨rfl, rfl⟩
theorem rounder4 (w : World) : Calls Try.prog 53 #[.int .i64 4] w fun e w' => e = .returned (.func (.func 65) #[] #[]) ∧ w = w' := by
  go_enter Try.func53, Try.ntmps53
  go_wp2
  go_ret
  exact ⟨rfl, rfl⟩
theorem rounder0 (way : Int) (w : World) (h : ¬ okW way) : Calls Try.prog 53 #[.int .i64 way] w fun e w' => e = .returned .nilFunc ∧ w = w' := by
  have h1 : (way == 1) = false := beq_eq_false_iff_ne.2 (by unfold okW at h; omega)
  have h2 : (way == 2) = false := beq_eq_false_iff_ne.2 (by unfold okW at h; omega)
  have h3 : (way == 3) = false := beq_eq_false_iff_ne.2 (by unfold okW at h; omega)
  have h4 : (way == 4) = false := beq_eq_false_iff_ne.2 (by unfold okW at h; omega)
  clear h
  go_enter Try.func53, Try.ntmps53
  go_wp2
  go_ret
  exact ⟨rfl, rfl⟩
theorem up1 (q r d : Int) (w : World) : Calls Try.prog 62 #[.int .i64 q, .int .i64 r, .int .i64 d] w fun e w' => e = .returned (.bool (upB 1 q r d)) ∧ w = w' := by
  rw [show upB 1 q r d = false by simp [upB]]
  go_enter Try.func62, Try.ntmps62
  go_wp2
  go_ret
  exact ⟨rfl, rfl⟩
theorem up2 (q r d : Int) (w : World) : Calls Try.prog 63 #[.int .i64 q, .int .i64 r, .int .i64 d] w fun e w' => e = .returned (.bool (upB 2 q r d)) ∧ w = w' := by
  rw [show upB 2 q r d = decide (0 < r) by simp [upB]]
  go_enter Try.func63, Try.ntmps63
  go_wp2
  go_ret
  exact ⟨rfl, rfl⟩
theorem up3 (q r d : Int) (w : World) (h0 : 0 ≤ r) (h1 : r ≤ 100000) : Calls Try.prog 64 #[.int .i64 q, .int .i64 r, .int .i64 d] w fun e w' => e = .returned (.bool (upB 3 q r d)) ∧ w = w' := by
  rw [show upB 3 q r d = decide (d ≤ 2 * r) by simp [upB]]
  go_enter Try.func64, Try.ntmps64
  go_wp2
  go_ret
  exact ⟨rfl, rfl⟩
theorem up4 (q r d : Int) (w : World) (h0 : 0 ≤ r) (h1 : r ≤ 100000) (hq : 0 ≤ q) : Calls Try.prog 65 #[.int .i64 q, .int .i64 r, .int .i64 d] w fun e w' => e = .returned (.bool (upB 4 q r d)) ∧ w = w' := by
  have e1 : upB 4 q r d = (decide (d < 2 * r) || (decide (2 * r = d) && decide (q % 2 = 1))) := by simp [upB]
  have e2 : (2 * r == d) = decide (2 * r = d) := rfl
  have e3 : q.tmod 2 = q % 2 := Int.tmod_eq_emod_of_nonneg hq
  rcases (show d < 2 * r ∨ 2 * r < d ∨ 2 * r = d by omega) with h | h | h
  · rw [e1, decide_eq_true h]; clear e1 e2 e3
    go_enter Try.func65, Try.ntmps65
    go_wp2
    go_ret
    exact ⟨by first | rfl | (simp; done) | (simp; omega), rfl⟩
  · rw [e1, decide_eq_false (by omega : ¬ d < 2 * r), decide_eq_false (by omega : ¬ 2 * r = d)]
    have h2 : (2 * r == d) = false := beq_eq_false_iff_ne.2 (by omega)
    clear e1 e2 e3
    go_enter Try.func65, Try.ntmps65
    go_wp2
    go_ret
    exact ⟨by first | rfl | (simp; done) | (simp; omega), rfl⟩
  · subst h
    rw [e1, decide_eq_false (by omega : ¬ 2 * r < 2 * r), decide_eq_true (show 2 * r = 2 * r from rfl)]
    clear e1 e2
    rcases (show q % 2 = 0 ∨ q % 2 = 1 by omega) with h | h
    · rw [h] at e3 ⊢
      clear h
      go_enter Try.func65, Try.ntmps65
      go_wp2
      go_ret
      exact ⟨by first | rfl | (simp; done) | (simp; omega), rfl⟩
    · rw [h] at e3 ⊢
      clear h
      go_enter Try.func65, Try.ntmps65
      go_wp2
      go_ret
      exact ⟨by first | rfl | (simp; done) | (simp; omega), rfl⟩
end Pn
end Go.Proofs.Ytcppeligeodomaa
