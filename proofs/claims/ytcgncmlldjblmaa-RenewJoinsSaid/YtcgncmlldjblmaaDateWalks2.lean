/- Package date, second part: numbers of dates, and back. -/
import Derived.Test.YtcgncmlldjblmaaDateWalks
import Derived.Test.YtcgncmlldjblmaaBase2
set_option linter.unusedSimpArgs false
set_option linter.unusedVariables false
namespace Go.Proofs.Ytcgncmlldjblmaa
open Go.RowKit
namespace Dt

def rawQ (y m d : Int) (w : World) (e : Ending) (w' : World) : Prop := e = .returned (.int .i64 (raw y m d)) ∧ Below w.heap.size w w'
theorem dby_bd (y : Int) (h1 : 1 ≤ y) (h2 : y ≤ 20000) : 0 ≤ dby y ∧ dby y ≤ 7400000 := by unfold dby; omega
theorem cum_bd (y m : Int) (h1 : 1 ≤ m) (h2 : m ≤ 13) : 0 ≤ cum y m ∧ cum y m ≤ 366 := by
  have a := cum_mono y 1 m (by omega) h1 h2
  have b := cum_mono y m 13 h1 h2 (by omega)
  have := lp_01 y
  rw [cum_1] at a; rw [cum_13] at b; omega
set_option maxHeartbeats 1000000 in
theorem raw_any (y m d : Int) (w : World) (h1 : 1 ≤ y) (h2 : y ≤ 20000) (h3 : 1 ≤ m) (h4 : m ≤ 12) (h5 : 0 ≤ d) (h6 : d ≤ 1000000) :
    Calls Try.prog 76 #[.agg #[.int .i64 y, .int .i64 m, .int .i64 d]] w (rawQ y m d w) := by
  have hb := dby_bd y h1 h2
  go_enter Try.func76, Try.ntmps76
  go_wp2
  go_quiet ((go_at_call 80; exact qz (before_any _ _ h1 h2)))
  go_wp2
  go_loop [3, 14] (fun n i => ∃ k : Nat, (k : Int) + 1 ≤ m ∧ i = .int .i64 k ∧ n = .int .i64 (dby y + cum y (k + 1) + d)) (fun _ i => (m - intOf i).toNat)
  case atStart => exact ⟨0, by omega, rfl, by rw [show ((0 : Nat) : Int) + 1 = 1 by rfl, cum_1]; go_num⟩
  case round =>
    obtain ⟨k, hk, rfl, rfl⟩ := hrel
    have hc := cum_bd y (k + 1) (by omega) (by omega)
    by_cases hlt : (k : Int) < m - 1
    · have hc2 := cum_bd y (k + 1 + 1) (by omega) (by omega)
      have hcs := cum_succ y (k + 1)
      have hl := len_bd y (k + 1) (by omega) (by omega)
      have Hcs := Lib.hid hcs; clear hcs
      go_wp2_with (go_at_call 81; refine (length_any _ _ _ (by omega) (by omega)).mono ?_; rintro e w' ⟨rfl, rfl⟩)
      go_round
      case rel => exact ⟨k + 1, by omega, by go_num, by rw [show ((k + 1 : Nat) : Int) + 1 = (k : Int) + 1 + 1 by omega, Hcs.out]; go_num⟩
      case measure => simp [intOf]; omega
    · have hkm : (k : Int) + 1 = m := by omega
      rw [hkm] at hc ⊢
      have Hk := Lib.hid hkm; clear hkm
      go_wp2
      go_ret
      exact ⟨ret_int rfl, bn ((br _).alloc (Nat.le_refl _) _) _⟩
end Dt
end Go.Proofs.Ytcgncmlldjblmaa
