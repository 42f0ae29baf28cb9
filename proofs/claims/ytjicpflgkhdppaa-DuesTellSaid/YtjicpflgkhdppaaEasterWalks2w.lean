/- Feasts; the document's Easter. -/
import Derived.Test.YtjicpflgkhdppaaEasterWalksw
set_option linter.unusedSimpArgs false
set_option linter.unusedVariables false
namespace Go.Proofs.Ytjicpflgkhdppaa
open Go.RowKit
namespace Dt
theorem easter_bd (y : Int) (h1 : 1583 ≤ y) (h2 : y ≤ 9999) : 1 ≤ easter y ∧ easter y ≤ 3652059 := by
  obtain ⟨_, a, b, _⟩ := easter_ok y h1 h2
  obtain ⟨_, _, v3, v4, _⟩ := len_vals y
  have c := raw_bd (y := y) (m := 3) (d := 22) ⟨by omega, h2, by decide, by decide, by decide, by omega⟩
  have d := raw_bd (y := y) (m := 4) (d := 25) ⟨by omega, h2, by decide, by decide, by decide, by omega⟩
  omega
def feastF (y off : Int) : Int × Int := if 1583 ≤ y ∧ y ≤ 9999 ∧ -100 ≤ off ∧ off ≤ 100 then (easter y + off, 0) else (0, 3)
def FeastQ (y off : Int) (w : World) (e : Ending) (w' : World) : Prop := e = .returned (.tuple #[.int .i64 (feastF y off).1, .int .i64 (feastF y off).2]) ∧ Below w.heap.size w w'
theorem feast_any (y off : Int) (w : World) : Calls Try.prog 77 #[.int .i64 y, .int .i64 off] w (FeastQ y off w) := by
  by_cases h : 1583 ≤ y ∧ y ≤ 9999
  · have hs : sunF y = (easter y, 0) := by unfold sunF; rw [if_pos h]
    have b := easter_bd y h.1 h.2
    by_cases g : -100 ≤ off ∧ off ≤ 100
    · have hf : feastF y off = (easter y + off, 0) := by unfold feastF; rw [if_pos ⟨h.1, h.2, g.1, g.2⟩]
      generalize easter y = N at *
      have Hs := Lib.hid hs; have Hf := Lib.hid hf; clear hs hf h
      go_enter Try.func77, Try.ntmps77
      go_wp2_with fail
      refine (sunday_any _ _).mono ?_
      rintro en w1 ⟨rfl, hb1⟩
      rw [Hs.out]
      go_wp2
      go_ret2
      exact ⟨by rw [Hf.out]; rfl, hb1⟩
    · have hf : feastF y off = (0, 3) := by unfold feastF; rw [if_neg (by omega)]
      generalize easter y = N at *
      have Hs := Lib.hid hs; have Hf := Lib.hid hf; clear hs hf h
      rcases (show off < -100 ∨ (-100 ≤ off ∧ 100 < off) by omega) with g1 | ⟨g1, g2⟩
      all_goals
        clear g
        go_enter Try.func77, Try.ntmps77
        go_wp2_with fail
        refine (sunday_any _ _).mono ?_
        rintro en w1 ⟨rfl, hb1⟩
        rw [Hs.out]
        go_wp2
        go_ret2
        exact ⟨by rw [Hf.out]; rfl, hb1⟩
  · have hs : sunF y = (0, 3) := by unfold sunF; rw [if_neg h]
    have hf : feastF y off = (0, 3) := by unfold feastF; rw [if_neg (by omega)]
    have Hs := Lib.hid hs; have Hf := Lib.hid hf; clear hs hf h
    go_enter Try.func77, Try.ntmps77
    go_wp2_with fail
    refine (sunday_any _ _).mono ?_
    rintro en w1 ⟨rfl, hb1⟩
    rw [Hs.out]
    go_wp2
    go_ret2
    exact ⟨by rw [Hf.out]; rfl, hb1⟩
end Dt
end Go.Proofs.Ytjicpflgkhdppaa
