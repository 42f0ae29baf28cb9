/- The statements on the digits that do without the document's answer. -/
import Derived.Test.YtcffcknnhjjdpaaDammLaws
namespace Go.Proofs.Ytcffcknnhjjdpaa
open Go.RowKit
namespace Dm

def LT (w : World) (e : Ending) (w' : World) : Prop := e = .returned (.bool true) ∧ Below w.heap.size w w'
theorem beq_iff (a b c d : Int) (h : a = b ↔ c = d) : (a == b) = (c == d) := by
  by_cases e : a = b
  · rw [beq_iff_eq.2 e, beq_iff_eq.2 (h.1 e)]
  · rw [beq_eq_false_iff_ne.2 e, beq_eq_false_iff_ne.2 (fun x => e (h.2 x))]
set_option maxHeartbeats 2000000 in
theorem latin_walk (r a b : Int) (w : World) : Calls Try.prog 7 #[.int .i64 r, .int .i64 a, .int .i64 b] w (LT w) := by
  by_cases h : r < 0 ∨ r > 9 ∨ a < 0 ∨ a > 9 ∨ b < 0 ∨ b > 9
  · rcases (show r < 0 ∨ (0 ≤ r ∧ 9 < r) ∨ (0 ≤ r ∧ r ≤ 9 ∧ a < 0) ∨ (0 ≤ r ∧ r ≤ 9 ∧ 0 ≤ a ∧ 9 < a) ∨ (0 ≤ r ∧ r ≤ 9 ∧ 0 ≤ a ∧ a ≤ 9 ∧ b < 0) ∨ (0 ≤ r ∧ r ≤ 9 ∧ 0 ≤ a ∧ a ≤ 9 ∧ 0 ≤ b ∧ 9 < b) by omega) with h1 | ⟨g1, h1⟩ | ⟨g1, g2, h1⟩ | ⟨g1, g2, g3, h1⟩ | ⟨g1, g2, g3, g4, h1⟩ | ⟨g1, g2, g3, g4, g5, h1⟩
    all_goals
      clear h
      go_enter Try.func7, Try.ntmps7
      go_wp2_with fail
      refine (begun_any _).mono ?_
      rintro en w1 ⟨rfl, hb1⟩
      go_wp2_with fail
      go_ret
      exact ⟨rfl, hb1⟩
  · have h0 : 0 ≤ r := by omega
    have h1 : r ≤ 9 := by omega
    have h2 : 0 ≤ a := by omega
    have h3 : a ≤ 9 := by omega
    have h4 : 0 ≤ b := by omega
    have h5 : b ≤ 9 := by omega
    clear h
    have x1 := tab_bd r a h0 h1 h2 h3
    have x2 := tab_bd r b h0 h1 h4 h5
    have hl := lat r a b h0 h1 h2 h3 h4 h5
    have s1 : stepF r a = (tab r a, 0) := by unfold stepF; rw [if_neg (by omega)]
    have s2 : stepF r b = (tab r b, 0) := by unfold stepF; rw [if_neg (by omega)]
    have s3 : stepF a r = (tab a r, 0) := by unfold stepF; rw [if_neg (by omega)]
    have s4 : stepF b r = (tab b r, 0) := by unfold stepF; rw [if_neg (by omega)]
    have s5 : stepF (tab r a) b = (tab (tab r a) b, 0) := by unfold stepF; rw [if_neg (by omega)]
    have s6 : stepF (tab r b) a = (tab (tab r b) a, 0) := by unfold stepF; rw [if_neg (by omega)]
    have s7 : stepF a a = (0, 0) := by unfold stepF; rw [if_neg (by omega), hl.2.2.2]
    generalize tab (tab r a) b = xb at *
    generalize tab (tab r b) a = ya at *
    generalize tab r a = x at *
    generalize tab r b = y at *
    generalize tab a r = p at *
    generalize tab b r = q at *
    have e1 := beq_iff _ _ _ _ hl.1
    have e2 := beq_iff _ _ _ _ hl.2.1
    have e3 := beq_iff _ _ _ _ hl.2.2.1
    have S1 := Lib.hid s1; have S2 := Lib.hid s2; have S3 := Lib.hid s3; have S4 := Lib.hid s4; have S5 := Lib.hid s5; have S6 := Lib.hid s6; have S7 := Lib.hid s7
    clear s1 s2 s3 s4 s5 s6 s7 hl
    by_cases hab : a = b
    all_goals
      first | rw [beq_iff_eq.2 hab] at e1 e2 e3 | rw [beq_eq_false_iff_ne.2 hab] at e1 e2 e3
      first | have hab' : (a == b) = true := beq_iff_eq.2 hab | have hab' : (a == b) = false := beq_eq_false_iff_ne.2 hab
      clear hab
      have E1 := Lib.hid e1; have E2 := Lib.hid e2; have E3 := Lib.hid e3; have HAB := Lib.hid hab'
      clear e1 e2 e3 hab'
      go_enter Try.func7, Try.ntmps7
      go_wp2_with fail
      refine (begun_any _).mono ?_
      rintro en w1 ⟨rfl, hb1⟩
      go_wp2_with fail
      refine (step_any _ _ _).mono ?_
      rintro en w1 ⟨rfl, rfl⟩
      rw [S1.out]
      go_wp2_with fail
      refine (step_any _ _ _).mono ?_
      rintro en w1 ⟨rfl, rfl⟩
      rw [S2.out]
      go_wp2_with fail
      refine (step_any _ _ _).mono ?_
      rintro en w1 ⟨rfl, rfl⟩
      rw [S3.out]
      go_wp2_with fail
      refine (step_any _ _ _).mono ?_
      rintro en w1 ⟨rfl, rfl⟩
      rw [S4.out]
      go_wp2_with fail
      refine (step_any _ _ _).mono ?_
      rintro en w1 ⟨rfl, rfl⟩
      rw [S5.out]
      go_wp2_with fail
      refine (step_any _ _ _).mono ?_
      rintro en w1 ⟨rfl, rfl⟩
      rw [S6.out]
      go_wp2_with fail
      refine (step_any _ _ _).mono ?_
      rintro en w1 ⟨rfl, rfl⟩
      rw [S7.out]
      have e1 := E1.out; have e2 := E2.out; have e3 := E3.out; have hab := HAB.out
      go_wp2
      go_ret
      exact ⟨rfl, hb1⟩

end Dm
end Go.Proofs.Ytcffcknnhjjdpaa
