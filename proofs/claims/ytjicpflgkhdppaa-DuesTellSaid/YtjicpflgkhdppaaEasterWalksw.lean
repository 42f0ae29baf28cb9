/- Package easter and the document's Easter: the functions and their contracts. -/
import Derived.Test.YtjicpflgkhdppaaEasterCorew
set_option linter.unusedSimpArgs false
set_option linter.unusedVariables false
namespace Go.Proofs.Ytjicpflgkhdppaa
open Go.RowKit
namespace Dt
theorem sunday_any (y : Int) (w : World) : Calls Try.prog 87 #[.int .i64 y] w (SunQ y w) := by
  by_cases h : 1583 ≤ y ∧ y ≤ 9999
  · have hf : sunF y = (easter y, 0) := by unfold sunF; rw [if_pos h]
    obtain ⟨h1, h2⟩ := h
    obtain ⟨_, _, _, _, hm, hH, hL, hM1, hM2, _, _⟩ := easter_ok y h1 h2
    have ep : eH y + eL y - 7 * eM y + 114 = eP y := rfl
    have hp : 0 ≤ eP y ∧ eP y ≤ 200 := by omega
    have em : (y % 19 + 11 * eH y + 22 * eL y) / 451 = eM y := rfl
    have R : 1 ≤ eP y / 31 ∧ eP y / 31 ≤ 12 := by omega
    refine (sunday_core y (y % 19) (y / 100) (y % 100) (y / 100 / 4) (y / 100 % 4) (y % 100 / 4) (y % 100 % 4) (eH y) (eL y) (eM y) (eP y) (y / 19) w h1 h2 (Lib.hid rfl) (Lib.hid rfl) (Lib.hid rfl) (Lib.hid rfl) (Lib.hid rfl) (Lib.hid rfl) (Lib.hid rfl) (Lib.hid rfl) ?_ ?_ ?_ ?_ ?_ ?_ ?_ hH hp (Lib.hid rfl) (Lib.hid rfl) (Lib.hid em) (Lib.hid ep) (Lib.hid R)).mono ?_
    · clear hH hL hM1 hM2 hp em ep hm R; omega
    · clear hH hL hM1 hM2 hp em ep hm R; omega
    · clear hH hL hM1 hM2 hp em ep hm R; omega
    · clear hH hL hM1 hM2 hp em ep hm R; omega
    · clear hH hL hM1 hM2 hp em ep hm R; omega
    · clear hH hL hM1 hM2 hp em ep hm R; omega
    · clear hH hL hM1 hM2 hp em ep hm R; omega
    · rintro en wb ⟨he, hb⟩
      exact ⟨by rw [he, hf]; rfl, hb⟩
  · have hf : sunF y = (0, 3) := by unfold sunF; rw [if_neg h]
    have Hf := Lib.hid hf; clear hf
    rcases (show y < 1583 ∨ (1583 ≤ y ∧ 9999 < y) by omega) with g | ⟨g1, g⟩
    all_goals
      clear h
      go_enter Try.func87, Try.ntmps87
      go_wp2
      go_ret2
      exact ⟨by rw [Hf.out]; rfl, br _⟩
end Dt
end Go.Proofs.Ytjicpflgkhdppaa
