/- The document's division of whole numbers, downward. -/
import Derived.Test.YtcgncmlldjblmaaProg
import Derived.Test.YtcgncmlldjblmaaBase2
set_option linter.unusedSimpArgs false
set_option linter.unusedVariables false
namespace Go.Proofs.Ytcgncmlldjblmaa
open Go.RowKit
set_option maxHeartbeats 400000 in
theorem floorDiv_pos (a b : Int) (w : World) (h0 : 0 ≤ a) (h2 : a ≤ 4611686018427387904) (h1 : 1 ≤ b) : Calls Try.prog 72 #[.int .i64 a, .int .i64 b] w fun e w' => e = .returned (.int .i64 (a / b)) ∧ w = w' := by
  have hb0 : (b == 0) = false := beq_eq_false_iff_ne.2 (by omega)
  have hq : 0 ≤ a / b := Int.ediv_nonneg h0 (by omega)
  have hq2 : a / b ≤ a := Int.ediv_le_self b h0
  by_cases hr : a % b = 0
  · have hr' : (a % b != 0) = false := by simp [hr]
    clear hr
    go_enter Try.func72, Try.ntmps72
    go_wp2
    go_ret
    exact ⟨rfl, rfl⟩
  · have hr' : (a % b != 0) = true := by simp [hr]
    have ha : decide (a < 0) = false := decide_eq_false (by omega)
    have hb : decide (b < 0) = false := decide_eq_false (by omega)
    clear hr
    go_enter Try.func72, Try.ntmps72
    go_wp2
    go_ret
    exact ⟨rfl, rfl⟩
theorem tdiv_neg' (a b : Int) (h0 : a < 0) (h1 : 1 ≤ b) : a.tdiv b = if a % b = 0 then a / b else a / b + 1 := by
  have h := Int.tdiv_eq_ediv (a := a) (b := b)
  rw [h]
  by_cases hd : b ∣ a
  · rw [if_pos (.inr hd), if_pos (Int.emod_eq_zero_of_dvd hd)]; omega
  · rw [if_neg (by intro x; rcases x with x | x; omega; exact hd x), if_neg (fun x => hd (Int.dvd_of_emod_eq_zero x)), Int.sign_eq_one_of_pos (by omega)]
set_option maxHeartbeats 400000 in
theorem floorDiv_neg (a b : Int) (w : World) (h0 : a < 0) (h2 : -4611686018427387904 ≤ a) (h1 : 1 ≤ b) (h3 : b ≤ 1000000000) : Calls Try.prog 72 #[.int .i64 a, .int .i64 b] w fun e w' => e = .returned (.int .i64 (a / b)) ∧ w = w' := by
  have hb0 : (b == 0) = false := beq_eq_false_iff_ne.2 (by omega)
  have ht := tdiv_neg' a b h0 h1
  have hm : (a.tmod b != 0) = (a % b != 0) := by
    unfold bne
    rw [show (a.tmod b == 0) = (a % b == 0) by
      rw [Bool.eq_iff_iff, beq_iff_eq, beq_iff_eq]
      exact ⟨fun h => Int.emod_eq_zero_of_dvd (Int.dvd_of_tmod_eq_zero h), fun h => Int.tmod_eq_zero_of_dvd (Int.dvd_of_emod_eq_zero h)⟩]
  have hq : a ≤ a / b := by
    have h4 := Int.mul_ediv_add_emod a b
    have h5 := Int.emod_nonneg a (show b ≠ 0 by omega)
    have h6 := Int.emod_lt_of_pos a (show 0 < b by omega)
    by_cases h7 : a / b < a
    · have : b * (a / b) ≤ 1 * (a / b) := Int.mul_le_mul_of_nonpos_right h1 (by omega)
      have : b * (a / b + 1) ≤ 1 * (a / b + 1) := Int.mul_le_mul_of_nonpos_right h1 (by omega)
      rw [Int.mul_add] at this
      omega
    · omega
  have hq2 : a / b < 0 := Int.ediv_neg_of_neg_of_pos h0 (by omega)
  have ha : decide (a < 0) = true := decide_eq_true h0
  have hb : decide (b < 0) = false := decide_eq_false (by omega)
  by_cases hr : a % b = 0
  · rw [if_pos hr] at ht
    rw [show (a % b != 0) = false by simp [hr]] at hm
    clear hr
    go_enter Try.func72, Try.ntmps72
    go_wp2
    go_ret
    exact ⟨ret_int (by first | rfl | (rw [IntWalk.wrap64_in _ (by omega)])), rfl⟩
  · rw [if_neg hr] at ht
    rw [show (a % b != 0) = true by simp [hr]] at hm
    clear hr
    go_enter Try.func72, Try.ntmps72
    go_wp2
    go_ret
    exact ⟨ret_int (by omega), rfl⟩
end Go.Proofs.Ytcgncmlldjblmaa
