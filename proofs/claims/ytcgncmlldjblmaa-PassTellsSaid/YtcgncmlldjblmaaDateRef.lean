/- The document's functions on dates and weeks, and their contracts. -/
import Derived.Test.YtcgncmlldjblmaaDateWalks3
import Derived.Test.YtcgncmlldjblmaaFloor
import Derived.Deep.RegionHeld3
set_option linter.unusedSimpArgs false
set_option linter.unusedVariables false
namespace Go.Proofs.Ytcgncmlldjblmaa
open Go.RowKit
namespace Dt

set_option maxHeartbeats 400000 in
theorem isLeap_any (y : Int) (w : World) : Calls Try.prog 71 #[.int .i64 y] w fun e w' => e = .returned (.bool (leapB y)) ∧ w = w' := by
  have h1 := tmod_beq y 4
  have h2 := tmod_beq y 100
  have h3 := tmod_beq y 400
  have hd : leapB y = (y % 4 == 0 && (y % 100 != 0 || y % 400 == 0)) := rfl
  by_cases c : y % 400 = 0
  · have e : leapB y = true := by rw [leap_iff]; omega
    have He := Lib.hid e
    rw [show (y % 400 == 0) = true by simp [c]] at h3
    clear h1 h2 hd e c
    go_enter Try.func71, Try.ntmps71
    go_wp2
    go_ret
    exact ⟨by rw [He.out]; rfl, rfl⟩
  · rw [show (y % 400 == 0) = false by simp [c]] at h3
    by_cases b : y % 100 = 0
    · have e : leapB y = false := by rw [← Bool.not_eq_true, leap_iff]; omega
      have He := Lib.hid e
      rw [show (y % 100 == 0) = true by simp [b]] at h2
      clear h1 hd e c b
      go_enter Try.func71, Try.ntmps71
      go_wp2
      go_ret
      exact ⟨by rw [He.out]; rfl, rfl⟩
    · rw [show (y % 100 == 0) = false by simp [b]] at h2
      have e : leapB y = (y % 4 == 0) := by
        rw [Bool.eq_iff_iff, leap_iff, beq_iff_eq]; omega
      have He := Lib.hid e
      clear hd e c b
      go_enter Try.func71, Try.ntmps71
      go_wp2
      go_ret
      exact ⟨by rw [He.out, ← h1]; rfl, rfl⟩

set_option maxHeartbeats 1000000 in
theorem monthDays_any (y m : Int) (w : World) : Calls Try.prog 63 #[.int .i64 y, .int .i64 m] w fun e w' => e = .returned (.int .i64 (len0 y m)) ∧ w = w' := by
  by_cases h : 1 ≤ y ∧ y ≤ 9999 ∧ 1 ≤ m ∧ m ≤ 12
  · have hl : len0 y m = len y m := by unfold len0; rw [if_pos h]
    have hv := len_vals y
    obtain ⟨h1, h2, h3, h4⟩ := h
    have hlp : lp y = if leapB y then 1 else 0 := rfl
    rcases month_cases h3 h4 with rfl | rfl | rfl | rfl | rfl | rfl | rfl | rfl | rfl | rfl | rfl | rfl
    case inr.inl =>
      cases hb : leapB y
      all_goals
        rw [hb] at hlp
        have Hl := Lib.hid hl; have Hv := Lib.hid hv; have Hp := Lib.hid hlp; have Hb := Lib.hid hb
        clear hl hv hlp hb
        go_enter Try.func63, Try.ntmps63
        go_wp2_with (go_at_call 71; refine (isLeap_any _ _).mono ?_; rintro e w' ⟨rfl, rfl⟩; rw [Hb.out])
        go_ret
        exact ⟨ret_int (by rw [Hl.out, Hv.out.2.1, Hp.out]; rfl), rfl⟩
    all_goals
      have Hl := Lib.hid hl; have Hv := Lib.hid hv
      clear hl hv hlp
      go_enter Try.func63, Try.ntmps63
      go_wp2
      go_ret
      exact ⟨ret_int (by have := Hv.out; rw [Hl.out]; omega), rfl⟩
  · have hl : len0 y m = 0 := by unfold len0; rw [if_neg h]
    have Hl := Lib.hid hl; clear hl
    rcases (show y < 1 ∨ (1 ≤ y ∧ 9999 < y) ∨ (1 ≤ y ∧ y ≤ 9999 ∧ m < 1) ∨ (1 ≤ y ∧ y ≤ 9999 ∧ 1 ≤ m ∧ 12 < m) by omega) with g | ⟨g1, g⟩ | ⟨g1, g2, g⟩ | ⟨g1, g2, g3, g⟩
    all_goals
      clear h
      go_enter Try.func63, Try.ntmps63
      go_wp2
      go_ret
      exact ⟨ret_int (by rw [Hl.out]), rfl⟩

/-- by eras of 400 years that begin with a March -/
theorem eras (y m d : Int) (h3 : 1 ≤ m) (h4 : m ≤ 12) :
    raw y m d = if m < 3 then (y - 1) / 400 * 146097 + (y - 1 - (y - 1) / 400 * 400) * 365 + (y - 1 - (y - 1) / 400 * 400) / 4 - (y - 1 - (y - 1) / 400 * 400) / 100 + (153 * (m - 3 + 12) + 2) / 5 + d - 306
      else y / 400 * 146097 + (y - y / 400 * 400) * 365 + (y - y / 400 * 400) / 4 - (y - y / 400 * 400) / 100 + (153 * (m - 3) + 2) / 5 + d - 306 := by
  have hd := dby_succ y
  have h1 : dby (y + 1) = 365 * y + y / 4 - y / 100 + y / 400 := by unfold dby; rw [show y + 1 - 1 = y by omega]
  unfold raw
  rcases month_cases h3 h4 with rfl | rfl | rfl | rfl | rfl | rfl | rfl | rfl | rfl | rfl | rfl | rfl
  all_goals simp [cum]
  · unfold dby; omega
  · unfold dby; omega
  all_goals omega
def RefDayQ (y m d : Int) (w : World) (e : Ending) (w' : World) : Prop := e = .returned (.int .i64 (raw y m d)) ∧ Below w.heap.size w w'
set_option maxHeartbeats 1000000 in
theorem dayOfR_any (y m d : Int) (w : World) (h1 : 1 ≤ y) (h2 : y ≤ 20000) (h3 : 1 ≤ m) (h4 : m ≤ 12) (h5 : 0 ≤ d) (h6 : d ≤ 1000000) :
    Calls Try.prog 64 #[.agg #[.int .i64 y, .int .i64 m, .int .i64 d]] w (RefDayQ y m d w) := by
  have he := eras y m d h3 h4
  by_cases hm : m < 3
  · rw [if_pos hm] at he
    have He := Lib.hid he; clear he
    go_enter Try.func64, Try.ntmps64
    go_wp2_with (go_at_call 72; refine (floorDiv_pos _ _ _ (by omega) (by omega) (by omega)).mono ?_; rintro e w' ⟨rfl, rfl⟩)
    go_ret
    exact ⟨ret_int (by rw [He.out]), (br _).alloc (Nat.le_refl _) _⟩
  · rw [if_neg hm] at he
    have He := Lib.hid he; clear he
    go_enter Try.func64, Try.ntmps64
    go_wp2_with (go_at_call 72; refine (floorDiv_pos _ _ _ (by omega) (by omega) (by omega)).mono ?_; rintro e w' ⟨rfl, rfl⟩)
    go_ret
    exact ⟨ret_int (by rw [He.out]), (br _).alloc (Nat.le_refl _) _⟩
end Dt
end Go.Proofs.Ytcgncmlldjblmaa
