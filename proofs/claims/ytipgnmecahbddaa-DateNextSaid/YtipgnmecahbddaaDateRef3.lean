/- The document's weeks. -/
import Derived.Test.YtipgnmecahbddaaDateRef2
namespace Go.Proofs.Ytipgnmecahbddaa
open Go.RowKit
namespace Dt
theorem raw_11 (y : Int) : raw y 1 1 = dby y + 1 := by unfold raw; rw [cum_1]; omega
set_option maxHeartbeats 2000000 in
theorem weekR_any (n : Int) (w : World) : Calls Try.prog 28 #[.int .i64 n] w (WeekQ n w) := by
  by_cases h : 1 ≤ n ∧ n ≤ 3652059
  · have hf : weekF n = (week n, 0) := by unfold weekF; rw [if_pos h]
    obtain ⟨h1, h2⟩ := h
    have hwd := wd_bd n
    have ht : n + 4 - wd n = thu n := rfl
    have ht1 : 4 ≤ thu n ∧ thu n ≤ n + 3 := by unfold thu wd; omega
    have hwk : week n = (wyear n, (week n).2.1, wd n) := rfl
    have hb := week_bd n h1 h2
    by_cases c : thu n ≤ 3652059
    · have hof : ofF (thu n) = (dateOf (thu n), 0) := by unfold ofF; rw [if_pos (by omega)]
      obtain ⟨y1, y2, y3, y4⟩ := yearOf_bd (thu n) (by omega) c
      obtain ⟨e1, e2⟩ := wyear_thu n (yearOf (thu n)) h1 h2 y3 y4
      rw [e1, ← e2] at hwk
      have hd0 : aD (dateOf (thu n)) = .agg #[.int .i64 (yearOf (thu n)), .int .i64 (dateOf (thu n)).2.1, .int .i64 (dateOf (thu n)).2.2] := rfl
      have d1 := dby_bd (yearOf (thu n)) y1 (by omega)
      generalize (dateOf (thu n)).2.1 = M at *
      generalize (dateOf (thu n)).2.2 = D at *
      generalize yearOf (thu n) = Y at *
      have hq0 : 0 ≤ thu n - (dby Y + 1) := by omega
      have hq1 : thu n - dby Y - 1 = thu n - (dby Y + 1) := by omega
      rw [hq1] at hwk
      have Hf := Lib.hid hf; have Ht := Lib.hid ht; have Hw := Lib.hid hwk; have Ho := Lib.hid hof; have Hd := Lib.hid hd0
      clear hf ht hwk hof hd0 hb e1 e2 hq1
      go_enter Try.func28, Try.ntmps28
      go_wp2_with fail
      refine (dayOfWeek_any _ _ h1 (by omega)).mono ?_
      rintro en w1 ⟨rfl, rfl⟩
      have ht := Ht.out
      go_wp2_with fail
      refine (dayOfR_any 9999 1 1 _ (by decide) (by decide) (by decide) (by decide) (by decide) (by decide)).mono ?_
      rintro en w1 ⟨rfl, hb1⟩
      rw [show raw 9999 1 1 = 3651695 by decide]
      go_wp2_with fail
      refine (dateOfR_any _ _).mono ?_
      rintro en w2 ⟨rfl, hb2⟩
      rw [Ho.out, Hd.out]
      go_wp2_with fail
      refine (dayOfR_any Y 1 1 _ y1 (by omega) (by decide) (by decide) (by decide) (by decide)).mono ?_
      rintro en w3 ⟨rfl, hb3⟩
      rw [raw_11]
      have hB := bt ((bt hb1 hb2).alloc (Nat.le_trans hb1.size hb2.size) _) hb3
      obtain ⟨hc, hz⟩ := bcell hB
      have hsz := hB.size
      rw [asz] at hc hz hsz
      go_wp2_with fail
      refine (dayOfWeek_any _ _ h1 (by omega)).mono ?_
      rintro en w4 ⟨rfl, rfl⟩
      go_wp2
      refine bodyPost_ret (v := .tuple #[.agg #[.int .i64 Y, .int .i64 ((thu n - (dby Y + 1)) / 7 + 1), .int .i64 (wd n)], .int .i64 0]) (by simp [results, Try.results28, go_sem, hc]) rfl ⟨by rw [Hf.out, Hw.out]; rfl, ?_⟩
      exact Below.setCell (Below.setCell (Below.setCell (bt ((br _).alloc (Nat.le_refl _) _) hB) (Nat.le_refl _) _) (Nat.le_refl _) _) (Nat.le_refl _) _
    · have dA : dby 10000 = 3652059 := by decide
      have dB : dby (10000 + 1) = 3652425 := by decide
      obtain ⟨e1, e2⟩ := wyear_thu n 10000 h1 h2 (by omega) (by omega)
      clear dA dB
      rw [e1, ← e2, show dby 10000 = 3652059 by decide, show thu n - 3652059 - 1 = thu n - 3652060 by omega] at hwk
      have Hf := Lib.hid hf; have Ht := Lib.hid ht; have Hw := Lib.hid hwk
      clear hf ht hwk hb e1 e2
      go_enter Try.func28, Try.ntmps28
      go_wp2_with fail
      refine (dayOfWeek_any _ _ h1 (by omega)).mono ?_
      rintro en w1 ⟨rfl, rfl⟩
      have ht := Ht.out
      go_wp2_with fail
      refine (dayOfR_any 9999 1 1 _ (by decide) (by decide) (by decide) (by decide) (by decide) (by decide)).mono ?_
      rintro en w1 ⟨rfl, hb1⟩
      rw [show raw 9999 1 1 = 3651695 by decide]
      obtain ⟨hc, hz⟩ := bcell hb1
      have hsz := hb1.size
      rw [asz] at hc hz hsz
      go_wp2_with fail
      refine (dayOfWeek_any _ _ h1 (by omega)).mono ?_
      rintro en w4 ⟨rfl, rfl⟩
      go_wp2
      refine bodyPost_ret (v := .tuple #[.agg #[.int .i64 10000, .int .i64 ((thu n - 3652060) / 7 + 1), .int .i64 (wd n)], .int .i64 0]) (by simp [results, Try.results28, go_sem, hc]) rfl ⟨by rw [Hf.out, Hw.out]; rfl, ?_⟩
      exact Below.setCell (Below.setCell (Below.setCell (bt ((br _).alloc (Nat.le_refl _) _) hb1) (Nat.le_refl _) _) (Nat.le_refl _) _) (Nat.le_refl _) _
  · have hf : weekF n = ((0, 0, 0), 3) := by unfold weekF; rw [if_neg h]
    have Hf := Lib.hid hf; clear hf
    rcases (show n < 1 ∨ 3652059 < n by omega) with g | g
    all_goals
      clear h
      go_enter Try.func28, Try.ntmps28
      go_wp2
      refine bodyPost_ret (v := .tuple #[aD (0, 0, 0), .int .i64 3]) (by simp [results, Try.results28, go_sem, aD]) rfl ⟨by rw [Hf.out], ?_⟩
      exact (br _).alloc (Nat.le_refl _) _
end Dt
end Go.Proofs.Ytipgnmecahbddaa
