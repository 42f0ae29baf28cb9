/- The five statements on the digits: the law functions are walked with the contracts of their callees. -/
import Derived.Test.YtcffcknnhjjdpaaDammRef2
namespace Go.Proofs.Ytcffcknnhjjdpaa
open Go.RowKit
namespace Dm

set_option maxHeartbeats 1000000 in
theorem begun_any (w : World) : Calls Try.prog 9 #[] w fun e w' => e = .returned (.bool true) ∧ Below w.heap.size w w' := by
  go_enter Try.func9, Try.ntmps9
  go_wp2_with fail
  refine (digit_any _ _ (by decide)).mono ?_
  rintro en w1 ⟨rfl, hb1⟩
  rw [show digF [53, 55, 50] = 52 by decide, show (led [53, 55, 50]).2 = 0 by decide]
  go_wp2_with fail
  refine (is_any _ _ (by decide)).mono ?_
  rintro en w2 ⟨rfl, hb2⟩
  rw [show isF [53, 55, 50, 52] = true by decide, show (led [53, 55, 50, 52]).2 = 0 by decide]
  go_wp2_with fail
  refine (is_any _ _ (by decide)).mono ?_
  rintro en w3 ⟨rfl, hb3⟩
  rw [show isF [53, 50, 55, 52] = false by decide, show (led [53, 50, 55, 52]).2 = 0 by decide]
  go_wp2_with fail
  refine (digit_any _ _ (by decide)).mono ?_
  rintro en w4 ⟨rfl, hb4⟩
  rw [show digF [53, 120] = 0 by decide, show (led [53, 120]).2 = 1 by decide]
  go_wp2
  go_ret
  exact ⟨rfl, ((hb1.trans (hb2.mono hb1.size)).trans (hb3.mono (Nat.le_trans hb1.size hb2.size))).trans (hb4.mono (Nat.le_trans hb1.size (Nat.le_trans hb2.size hb3.size)))⟩

set_option maxHeartbeats 1000000 in
theorem tells_walk (r d : Int) (s : ByteArray) (w : World) (hs : s.size ≤ maxLen) :
    Calls Try.prog 6 #[.int .i64 r, .int .i64 d, .string s] w fun e w' => e = .returned (.bool true) ∧ Below w.heap.size w w' := by
  have hb := led_bd s.data.toList
  obtain ⟨p1, hp1⟩ : ∃ p1, p1 = (stepF r d).1 := ⟨_, rfl⟩
  obtain ⟨p2, hp2⟩ : ∃ p2, p2 = (stepF r d).2 := ⟨_, rfl⟩
  obtain ⟨q1, hq1⟩ : ∃ q1, q1 = (led s.data.toList).1 := ⟨_, rfl⟩
  obtain ⟨q2, hq2⟩ : ∃ q2, q2 = (led s.data.toList).2 := ⟨_, rfl⟩
  have hd : digF s.data.toList = if q2 = 0 then 48 + q1 else 0 := by rw [hq1, hq2]; rfl
  have hi : isF s.data.toList = (decide (q2 = 0) && decide (q1 = 0)) := by rw [hq1, hq2]; rfl
  rw [← hq1, ← hq2] at hb
  have Hd := Lib.hid hd; have Hi := Lib.hid hi; have P1 := Lib.hid hp1; have P2 := Lib.hid hp2; have Q1 := Lib.hid hq1; have Q2 := Lib.hid hq2
  clear hd hi hp1 hp2 hq1 hq2
  by_cases h0 : q2 = 0
  · rw [if_pos h0] at Hd
    by_cases h1 : q1 = 0
    · rw [decide_eq_true h0, decide_eq_true h1] at Hi
      subst h0 h1
      clear hb
      go_enter Try.func6, Try.ntmps6
      go_wp2_with fail
      refine (step_any _ _ _).mono ?_
      rintro en w1 ⟨rfl, rfl⟩
      rw [← P1.out, ← P2.out]
      go_wp2_with fail
      refine (digit_any _ _ hs).mono ?_
      rintro en w1 ⟨rfl, hb1⟩
      rw [Hd.out, ← Q2.out]
      go_wp2_with fail
      refine (is_any _ _ hs).mono ?_
      rintro en w2 ⟨rfl, hb2⟩
      rw [Hi.out, ← Q2.out]
      go_wp2_with fail
      refine (stepR_any _ _ _).mono ?_
      rintro en w3 ⟨rfl, hb3⟩
      rw [← P1.out, ← P2.out]
      go_wp2_with fail
      refine (ledR_any _ _ _ (Nat.le_refl _) hs).mono ?_
      rintro en w4 ⟨rfl, hb4⟩
      rw [← Q1.out, ← Q2.out]
      go_wp2_with fail
      refine (begun_any _).mono ?_
      rintro en w5 ⟨rfl, hb5⟩
      go_wp2
      go_ret
      exact ⟨by first | rfl | simp, bt (bt (bt (bt hb1 hb2) hb3) hb4) hb5⟩
    · rw [decide_eq_true h0, decide_eq_false h1] at Hi
      have h1' : (q1 == 0) = false := by simp [h1]
      have hq0 : 0 ≤ q1 := hb.1
      have hq9 : q1 ≤ 9 := hb.2.1
      subst h0
      clear h1 hb
      go_enter Try.func6, Try.ntmps6
      go_wp2_with fail
      refine (step_any _ _ _).mono ?_
      rintro en w1 ⟨rfl, rfl⟩
      rw [← P1.out, ← P2.out]
      go_wp2_with fail
      refine (digit_any _ _ hs).mono ?_
      rintro en w1 ⟨rfl, hb1⟩
      rw [Hd.out, ← Q2.out]
      go_wp2_with fail
      refine (is_any _ _ hs).mono ?_
      rintro en w2 ⟨rfl, hb2⟩
      rw [Hi.out, ← Q2.out]
      go_wp2_with fail
      refine (stepR_any _ _ _).mono ?_
      rintro en w3 ⟨rfl, hb3⟩
      rw [← P1.out, ← P2.out]
      go_wp2_with fail
      refine (ledR_any _ _ _ (Nat.le_refl _) hs).mono ?_
      rintro en w4 ⟨rfl, hb4⟩
      rw [← Q1.out, ← Q2.out]
      go_wp2_with fail
      refine (begun_any _).mono ?_
      rintro en w5 ⟨rfl, hb5⟩
      go_wp2
      go_ret
      exact ⟨by first | rfl | simp, bt (bt (bt (bt hb1 hb2) hb3) hb4) hb5⟩
  · have h0' : (q2 == 0) = false := by simp [h0]
    rw [if_neg h0] at Hd
    rw [decide_eq_false h0] at Hi
    clear h0 hb
    go_enter Try.func6, Try.ntmps6
    go_wp2_with fail
    refine (step_any _ _ _).mono ?_
    rintro en w1 ⟨rfl, rfl⟩
    rw [← P1.out, ← P2.out]
    go_wp2_with fail
    refine (digit_any _ _ hs).mono ?_
    rintro en w1 ⟨rfl, hb1⟩
    rw [Hd.out, ← Q2.out]
    go_wp2_with fail
    refine (is_any _ _ hs).mono ?_
    rintro en w2 ⟨rfl, hb2⟩
    rw [Hi.out, ← Q2.out]
    go_wp2_with fail
    refine (stepR_any _ _ _).mono ?_
    rintro en w3 ⟨rfl, hb3⟩
    rw [← P1.out, ← P2.out]
    go_wp2_with fail
    refine (ledR_any _ _ _ (Nat.le_refl _) hs).mono ?_
    rintro en w4 ⟨rfl, hb4⟩
    rw [← Q1.out, ← Q2.out]
    go_wp2_with fail
    refine (begun_any _).mono ?_
    rintro en w5 ⟨rfl, hb5⟩
    go_wp2
    go_ret
    exact ⟨by first | rfl | simp, bt (bt (bt (bt hb1 hb2) hb3) hb4) hb5⟩
end Dm
end Go.Proofs.Ytcffcknnhjjdpaa
