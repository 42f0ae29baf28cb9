/- Package date: its functions and their contracts. -/
import Derived.Test.YtcgncmlldjblmaaProg
import Derived.Test.YtcgncmlldjblmaaWeekPlain
import Derived.WalkKit
import Derived.Lib.Hide
import Derived.Outline
set_option linter.unusedSimpArgs false
set_option linter.unusedVariables false
namespace Go.Proofs.Ytcgncmlldjblmaa
open Go.RowKit
namespace Dt

theorem tmod_beq (y k : Int) : (y.tmod k == 0) = (y % k == 0) := by
  rw [Bool.eq_iff_iff, beq_iff_eq, beq_iff_eq]
  exact ⟨fun h => Int.emod_eq_zero_of_dvd (Int.dvd_of_tmod_eq_zero h), fun h => Int.tmod_eq_zero_of_dvd (Int.dvd_of_emod_eq_zero h)⟩
theorem tmod_bne (y k : Int) : (y.tmod k != 0) = (y % k != 0) := by unfold bne; rw [tmod_beq]

set_option maxHeartbeats 400000 in
theorem leap_any (y : Int) (w : World) : Calls Try.prog 92 #[.int .i64 y] w fun e w' => e = .returned (.bool (leapB y)) ∧ w = w' := by
  have h1 := tmod_beq y 4
  have h2 := tmod_bne y 100
  have h3 := tmod_beq y 400
  have hd : leapB y = (y % 4 == 0 && (y % 100 != 0 || y % 400 == 0)) := rfl
  have Hd := Lib.hid hd; clear hd
  by_cases a : y % 4 = 0
  · have a' : (y % 4 == 0) = true := by simp [a]
    by_cases b : y % 100 = 0
    · have b' : (y % 100 != 0) = false := by simp [b]
      rw [a'] at h1 Hd; rw [b'] at h2 Hd
      clear a b a' b'
      go_enter Try.func92, Try.ntmps92
      go_wp2
      go_ret
      exact ⟨by rw [Hd.out]; simp, rfl⟩
    · have b' : (y % 100 != 0) = true := by simp [b]
      rw [a'] at h1 Hd; rw [b'] at h2 Hd
      clear a b a' b'
      go_enter Try.func92, Try.ntmps92
      go_wp2
      go_ret
      exact ⟨by rw [Hd.out]; simp, rfl⟩
  · have a' : (y % 4 == 0) = false := by simp [a]
    rw [a'] at h1 Hd
    clear a a'
    go_enter Try.func92, Try.ntmps92
    go_wp2
    go_ret
    exact ⟨by rw [Hd.out]; simp, rfl⟩

def lens : Array Value := #[.int .i64 31, .int .i64 28, .int .i64 31, .int .i64 30, .int .i64 31, .int .i64 30, .int .i64 31, .int .i64 31, .int .i64 30, .int .i64 31, .int .i64 30, .int .i64 31]
theorem idx0 (w : World) : (Instr.index 108 (.agg #[.int .i64 31, .int .i64 28, .int .i64 31, .int .i64 30, .int .i64 31, .int .i64 30, .int .i64 31, .int .i64 31, .int .i64 30, .int .i64 31, .int .i64 30, .int .i64 31]) (.int .i64 0)).run Try.prog w = .ok (.int .i64 31) w := by kernel_rfl
theorem idx1 (w : World) : (Instr.index 108 (.agg #[.int .i64 31, .int .i64 28, .int .i64 31, .int .i64 30, .int .i64 31, .int .i64 30, .int .i64 31, .int .i64 31, .int .i64 30, .int .i64 31, .int .i64 30, .int .i64 31]) (.int .i64 1)).run Try.prog w = .ok (.int .i64 28) w := by kernel_rfl
theorem idx2 (w : World) : (Instr.index 108 (.agg #[.int .i64 31, .int .i64 28, .int .i64 31, .int .i64 30, .int .i64 31, .int .i64 30, .int .i64 31, .int .i64 31, .int .i64 30, .int .i64 31, .int .i64 30, .int .i64 31]) (.int .i64 2)).run Try.prog w = .ok (.int .i64 31) w := by kernel_rfl
theorem idx3 (w : World) : (Instr.index 108 (.agg #[.int .i64 31, .int .i64 28, .int .i64 31, .int .i64 30, .int .i64 31, .int .i64 30, .int .i64 31, .int .i64 31, .int .i64 30, .int .i64 31, .int .i64 30, .int .i64 31]) (.int .i64 3)).run Try.prog w = .ok (.int .i64 30) w := by kernel_rfl
theorem idx4 (w : World) : (Instr.index 108 (.agg #[.int .i64 31, .int .i64 28, .int .i64 31, .int .i64 30, .int .i64 31, .int .i64 30, .int .i64 31, .int .i64 31, .int .i64 30, .int .i64 31, .int .i64 30, .int .i64 31]) (.int .i64 4)).run Try.prog w = .ok (.int .i64 31) w := by kernel_rfl
theorem idx5 (w : World) : (Instr.index 108 (.agg #[.int .i64 31, .int .i64 28, .int .i64 31, .int .i64 30, .int .i64 31, .int .i64 30, .int .i64 31, .int .i64 31, .int .i64 30, .int .i64 31, .int .i64 30, .int .i64 31]) (.int .i64 5)).run Try.prog w = .ok (.int .i64 30) w := by kernel_rfl
theorem idx6 (w : World) : (Instr.index 108 (.agg #[.int .i64 31, .int .i64 28, .int .i64 31, .int .i64 30, .int .i64 31, .int .i64 30, .int .i64 31, .int .i64 31, .int .i64 30, .int .i64 31, .int .i64 30, .int .i64 31]) (.int .i64 6)).run Try.prog w = .ok (.int .i64 31) w := by kernel_rfl
theorem idx7 (w : World) : (Instr.index 108 (.agg #[.int .i64 31, .int .i64 28, .int .i64 31, .int .i64 30, .int .i64 31, .int .i64 30, .int .i64 31, .int .i64 31, .int .i64 30, .int .i64 31, .int .i64 30, .int .i64 31]) (.int .i64 7)).run Try.prog w = .ok (.int .i64 31) w := by kernel_rfl
theorem idx8 (w : World) : (Instr.index 108 (.agg #[.int .i64 31, .int .i64 28, .int .i64 31, .int .i64 30, .int .i64 31, .int .i64 30, .int .i64 31, .int .i64 31, .int .i64 30, .int .i64 31, .int .i64 30, .int .i64 31]) (.int .i64 8)).run Try.prog w = .ok (.int .i64 30) w := by kernel_rfl
theorem idx9 (w : World) : (Instr.index 108 (.agg #[.int .i64 31, .int .i64 28, .int .i64 31, .int .i64 30, .int .i64 31, .int .i64 30, .int .i64 31, .int .i64 31, .int .i64 30, .int .i64 31, .int .i64 30, .int .i64 31]) (.int .i64 9)).run Try.prog w = .ok (.int .i64 31) w := by kernel_rfl
theorem idx10 (w : World) : (Instr.index 108 (.agg #[.int .i64 31, .int .i64 28, .int .i64 31, .int .i64 30, .int .i64 31, .int .i64 30, .int .i64 31, .int .i64 31, .int .i64 30, .int .i64 31, .int .i64 30, .int .i64 31]) (.int .i64 10)).run Try.prog w = .ok (.int .i64 30) w := by kernel_rfl
theorem idx11 (w : World) : (Instr.index 108 (.agg #[.int .i64 31, .int .i64 28, .int .i64 31, .int .i64 30, .int .i64 31, .int .i64 30, .int .i64 31, .int .i64 31, .int .i64 30, .int .i64 31, .int .i64 30, .int .i64 31]) (.int .i64 11)).run Try.prog w = .ok (.int .i64 31) w := by kernel_rfl

set_option maxHeartbeats 1000000 in
theorem length_2 (y : Int) (w : World) : Calls Try.prog 81 #[.int .i64 y, .int .i64 2] w fun e w' => e = .returned (.int .i64 (len y 2)) ∧ w = w' := by
  have hv : len y 2 = 28 + lp y := by simp [len, cum]; omega
  have Hv := Lib.hid hv; clear hv
  have hi := fun w => idx1 w
  by_cases hb : leapB y = true
  · have hlp : lp y = 1 := by unfold lp; rw [if_pos hb]
    have Hlp := Lib.hid hlp; have Hb := Lib.hid hb; clear hlp hb
    go_enter Try.func81, Try.ntmps81
    go_wp2_with (go_at_call 92; refine (leap_any _ _).mono ?_; rintro e w' ⟨rfl, rfl⟩; rw [Hb.out])
    go_ret
    exact ⟨ret_int (by rw [Hv.out, Hlp.out]; rfl), rfl⟩
  · have hlp : lp y = 0 := by unfold lp; rw [if_neg hb]
    rw [Bool.not_eq_true] at hb
    have Hlp := Lib.hid hlp; have Hb := Lib.hid hb; clear hlp hb
    go_enter Try.func81, Try.ntmps81
    go_wp2_with (go_at_call 92; refine (leap_any _ _).mono ?_; rintro e w' ⟨rfl, rfl⟩; rw [Hb.out])
    go_ret
    exact ⟨ret_int (by rw [Hv.out, Hlp.out]; rfl), rfl⟩
theorem length_1 (y : Int) (w : World) : Calls Try.prog 81 #[.int .i64 y, .int .i64 1] w fun e w' => e = .returned (.int .i64 (len y 1)) ∧ w = w' := by
  have hv : len y 1 = 31 := by simp [len, cum]; try omega
  have Hv := Lib.hid hv; clear hv
  have hi := fun w => idx0 w
  go_enter Try.func81, Try.ntmps81
  go_wp2
  go_ret
  exact ⟨ret_int (by rw [Hv.out]), rfl⟩
theorem length_3 (y : Int) (w : World) : Calls Try.prog 81 #[.int .i64 y, .int .i64 3] w fun e w' => e = .returned (.int .i64 (len y 3)) ∧ w = w' := by
  have hv : len y 3 = 31 := by simp [len, cum]; try omega
  have Hv := Lib.hid hv; clear hv
  have hi := fun w => idx2 w
  go_enter Try.func81, Try.ntmps81
  go_wp2
  go_ret
  exact ⟨ret_int (by rw [Hv.out]), rfl⟩
theorem length_4 (y : Int) (w : World) : Calls Try.prog 81 #[.int .i64 y, .int .i64 4] w fun e w' => e = .returned (.int .i64 (len y 4)) ∧ w = w' := by
  have hv : len y 4 = 30 := by simp [len, cum]; try omega
  have Hv := Lib.hid hv; clear hv
  have hi := fun w => idx3 w
  go_enter Try.func81, Try.ntmps81
  go_wp2
  go_ret
  exact ⟨ret_int (by rw [Hv.out]), rfl⟩
theorem length_5 (y : Int) (w : World) : Calls Try.prog 81 #[.int .i64 y, .int .i64 5] w fun e w' => e = .returned (.int .i64 (len y 5)) ∧ w = w' := by
  have hv : len y 5 = 31 := by simp [len, cum]; try omega
  have Hv := Lib.hid hv; clear hv
  have hi := fun w => idx4 w
  go_enter Try.func81, Try.ntmps81
  go_wp2
  go_ret
  exact ⟨ret_int (by rw [Hv.out]), rfl⟩
theorem length_6 (y : Int) (w : World) : Calls Try.prog 81 #[.int .i64 y, .int .i64 6] w fun e w' => e = .returned (.int .i64 (len y 6)) ∧ w = w' := by
  have hv : len y 6 = 30 := by simp [len, cum]; try omega
  have Hv := Lib.hid hv; clear hv
  have hi := fun w => idx5 w
  go_enter Try.func81, Try.ntmps81
  go_wp2
  go_ret
  exact ⟨ret_int (by rw [Hv.out]), rfl⟩
theorem length_7 (y : Int) (w : World) : Calls Try.prog 81 #[.int .i64 y, .int .i64 7] w fun e w' => e = .returned (.int .i64 (len y 7)) ∧ w = w' := by
  have hv : len y 7 = 31 := by simp [len, cum]; try omega
  have Hv := Lib.hid hv; clear hv
  have hi := fun w => idx6 w
  go_enter Try.func81, Try.ntmps81
  go_wp2
  go_ret
  exact ⟨ret_int (by rw [Hv.out]), rfl⟩
theorem length_8 (y : Int) (w : World) : Calls Try.prog 81 #[.int .i64 y, .int .i64 8] w fun e w' => e = .returned (.int .i64 (len y 8)) ∧ w = w' := by
  have hv : len y 8 = 31 := by simp [len, cum]; try omega
  have Hv := Lib.hid hv; clear hv
  have hi := fun w => idx7 w
  go_enter Try.func81, Try.ntmps81
  go_wp2
  go_ret
  exact ⟨ret_int (by rw [Hv.out]), rfl⟩
theorem length_9 (y : Int) (w : World) : Calls Try.prog 81 #[.int .i64 y, .int .i64 9] w fun e w' => e = .returned (.int .i64 (len y 9)) ∧ w = w' := by
  have hv : len y 9 = 30 := by simp [len, cum]; try omega
  have Hv := Lib.hid hv; clear hv
  have hi := fun w => idx8 w
  go_enter Try.func81, Try.ntmps81
  go_wp2
  go_ret
  exact ⟨ret_int (by rw [Hv.out]), rfl⟩
theorem length_10 (y : Int) (w : World) : Calls Try.prog 81 #[.int .i64 y, .int .i64 10] w fun e w' => e = .returned (.int .i64 (len y 10)) ∧ w = w' := by
  have hv : len y 10 = 31 := by simp [len, cum]; try omega
  have Hv := Lib.hid hv; clear hv
  have hi := fun w => idx9 w
  go_enter Try.func81, Try.ntmps81
  go_wp2
  go_ret
  exact ⟨ret_int (by rw [Hv.out]), rfl⟩
theorem length_11 (y : Int) (w : World) : Calls Try.prog 81 #[.int .i64 y, .int .i64 11] w fun e w' => e = .returned (.int .i64 (len y 11)) ∧ w = w' := by
  have hv : len y 11 = 30 := by simp [len, cum]; try omega
  have Hv := Lib.hid hv; clear hv
  have hi := fun w => idx10 w
  go_enter Try.func81, Try.ntmps81
  go_wp2
  go_ret
  exact ⟨ret_int (by rw [Hv.out]), rfl⟩
theorem length_12 (y : Int) (w : World) : Calls Try.prog 81 #[.int .i64 y, .int .i64 12] w fun e w' => e = .returned (.int .i64 (len y 12)) ∧ w = w' := by
  have hv : len y 12 = 31 := by simp [len, cum]; try omega
  have Hv := Lib.hid hv; clear hv
  have hi := fun w => idx11 w
  go_enter Try.func81, Try.ntmps81
  go_wp2
  go_ret
  exact ⟨ret_int (by rw [Hv.out]), rfl⟩
theorem length_any (y m : Int) (w : World) (h1 : 1 ≤ m) (h2 : m ≤ 12) : Calls Try.prog 81 #[.int .i64 y, .int .i64 m] w fun e w' => e = .returned (.int .i64 (len y m)) ∧ w = w' := by
  rcases month_cases h1 h2 with rfl | rfl | rfl | rfl | rfl | rfl | rfl | rfl | rfl | rfl | rfl | rfl
  · exact length_1 y w
  · exact length_2 y w
  · exact length_3 y w
  · exact length_4 y w
  · exact length_5 y w
  · exact length_6 y w
  · exact length_7 y w
  · exact length_8 y w
  · exact length_9 y w
  · exact length_10 y w
  · exact length_11 y w
  · exact length_12 y w

set_option maxHeartbeats 400000 in
theorem len0_any (y m : Int) (w : World) : Calls Try.prog 75 #[.int .i64 y, .int .i64 m] w fun e w' => e = .returned (.int .i64 (len0 y m)) ∧ w = w' := by
  by_cases h : 1 ≤ y ∧ y ≤ 9999 ∧ 1 ≤ m ∧ m ≤ 12
  · have hl : len0 y m = len y m := by unfold len0; rw [if_pos h]
    obtain ⟨h1, h2, h3, h4⟩ := h
    have Hl := Lib.hid hl; clear hl
    go_enter Try.func75, Try.ntmps75
    go_wp2_with (go_at_call 81; refine (length_any _ _ _ h3 h4).mono ?_; rintro e w' ⟨rfl, rfl⟩)
    go_ret
    exact ⟨ret_int (by rw [Hl.out]), rfl⟩
  · have hl : len0 y m = 0 := by unfold len0; rw [if_neg h]
    have Hl := Lib.hid hl; clear hl
    rcases (show y < 1 ∨ (1 ≤ y ∧ 9999 < y) ∨ (1 ≤ y ∧ y ≤ 9999 ∧ m < 1) ∨ (1 ≤ y ∧ y ≤ 9999 ∧ 1 ≤ m ∧ 12 < m) by omega) with g | ⟨g1, g⟩ | ⟨g1, g2, g⟩ | ⟨g1, g2, g3, g⟩
    all_goals
      clear h
      go_enter Try.func75, Try.ntmps75
      go_wp2
      go_ret
      exact ⟨ret_int (by rw [Hl.out]), rfl⟩

set_option maxHeartbeats 400000 in
theorem before_any (y : Int) (w : World) (h1 : 1 ≤ y) (h2 : y ≤ 20000) : Calls Try.prog 80 #[.int .i64 y] w fun e w' => e = .returned (.int .i64 (dby y)) ∧ w = w' := by
  go_enter Try.func80, Try.ntmps80
  go_wp2
  go_ret
  exact ⟨ret_int (by unfold dby; rfl), rfl⟩
end Dt
end Go.Proofs.Ytcgncmlldjblmaa
