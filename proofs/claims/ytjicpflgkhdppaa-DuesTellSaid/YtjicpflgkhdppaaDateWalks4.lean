/- Package date, fourth part: weeks. -/
import Derived.Test.YtjicpflgkhdppaaDateWalks3
set_option linter.unusedSimpArgs false
set_option linter.unusedVariables false
namespace Go.Proofs.Ytjicpflgkhdppaa
open Go.RowKit
namespace Dt
theorem fld0 (a b c : Int) (w : World) : (Instr.field 46 (.agg #[.int .i64 a, .int .i64 b, .int .i64 c]) 0).run Try.prog w = .ok (.int .i64 a) w := by kernel_rfl
def weekF (n : Int) : (Int × Int × Int) × Int := if 1 ≤ n ∧ n ≤ 3652059 then (week n, 0) else ((0, 0, 0), 3)
def WeekQ (n : Int) (w : World) (e : Ending) (w' : World) : Prop := e = .returned (.tuple #[aD (weekF n).1, .int .i64 (weekF n).2]) ∧ Below w.heap.size w w'
set_option maxHeartbeats 1000000 in
theorem week_any (n : Int) (w : World) : Calls Try.prog 26 #[.int .i64 n] w (WeekQ n w) := by
  by_cases h : 1 ≤ n ∧ n ≤ 3652059
  · have hf : weekF n = (week n, 0) := by unfold weekF; rw [if_pos h]
    have hi := isD_yes h.1 h.2
    obtain ⟨h1, h2⟩ := h
    obtain ⟨y1, y2, _, _⟩ := yearOf_bd n h1 h2
    obtain ⟨v1, v2, v3, v4⟩ := wyear_spec n h1 h2
    have hk := week_bd n h1 h2
    have hwy : wyear n = if n < first (yearOf n) then yearOf n - 1 else if first (yearOf n + 1) ≤ n then yearOf n + 1 else yearOf n := rfl
    have hwk : week n = (wyear n, (n - first (wyear n)) / 7 + 1, wd n) := rfl
    have hd0 : aD (dateOf n) = .agg #[.int .i64 (yearOf n), .int .i64 (dateOf n).2.1, .int .i64 (dateOf n).2.2] := rfl
    generalize (dateOf n).2.1 = M at *
    generalize (dateOf n).2.2 = D at *
    have f0 := dby_bd (wyear n) v3 (by omega)
    have f1 := first_bd (wyear n)
    have g1 : 1 ≤ (n - first (wyear n)) / 7 + 1 ∧ (n - first (wyear n)) / 7 + 1 ≤ 53 := by rw [hwk] at hk; exact ⟨hk.1, hk.2.1⟩
    clear hk
    generalize yearOf n = y at *
    generalize wyear n = Y at *
    have Hf := Lib.hid hf; have Hi := Lib.hid hi; have Hw := Lib.hid hwk; have Hd := Lib.hid hd0
    clear hf hi hwk hd0
    rcases (show (n < first y) ∨ (¬ n < first y ∧ first (y + 1) ≤ n) ∨ (¬ n < first y ∧ ¬ first (y + 1) ≤ n) by omega) with c1 | ⟨c1, c2⟩ | ⟨c1, c2⟩
    · obtain rfl : Y = y - 1 := by rw [hwy, if_pos c1]
      clear hwy
      go_enter Try.func26, Try.ntmps26
      go_wp2_with fail
      refine (is_any _ _).mono ?_
      rintro en w1 ⟨rfl, rfl⟩
      rw [Hi.out]
      go_wp2_with fail
      refine (rawOf_any _ _ h1 h2).mono ?_
      rintro en w1 ⟨rfl, hb1⟩
      rw [Hd.out]
      obtain ⟨hc, hz⟩ := bcell hb1
      have hsz := hb1.size
      rw [asz] at hc hz hsz
      have hfl := fld0 y M D
      go_wp2_with fail
      refine (first_any _ _ y1 (by omega)).mono ?_
      rintro en w2 ⟨rfl, rfl⟩
      go_wp2_with fail
      refine (first_any _ _ v3 (by omega)).mono ?_
      rintro en w2 ⟨rfl, rfl⟩
      go_wp2_with fail
      refine (weekday_any _ _ h1 (by omega)).mono ?_
      rintro en w2 ⟨rfl, rfl⟩
      go_wp2
      refine bodyPost_ret (v := .tuple #[.agg #[.int .i64 (y - 1), .int .i64 ((n - first (y - 1)) / 7 + 1), .int .i64 (wd n)], .int .i64 0]) (by simp [results, Try.results26, go_sem, hc]) rfl ⟨by rw [Hf.out, Hw.out]; rfl, ?_⟩
      exact Below.setCell (Below.setCell (Below.setCell (bt ((br _).alloc (Nat.le_refl _) _) hb1) (Nat.le_refl _) _) (Nat.le_refl _) _) (Nat.le_refl _) _
    · obtain rfl : Y = y + 1 := by rw [hwy, if_neg c1, if_pos c2]
      clear hwy
      go_enter Try.func26, Try.ntmps26
      go_wp2_with fail
      refine (is_any _ _).mono ?_
      rintro en w1 ⟨rfl, rfl⟩
      rw [Hi.out]
      go_wp2_with fail
      refine (rawOf_any _ _ h1 h2).mono ?_
      rintro en w1 ⟨rfl, hb1⟩
      rw [Hd.out]
      obtain ⟨hc, hz⟩ := bcell hb1
      have hsz := hb1.size
      rw [asz] at hc hz hsz
      have hfl := fld0 y M D
      go_wp2_with fail
      refine (first_any _ _ y1 (by omega)).mono ?_
      rintro en w2 ⟨rfl, rfl⟩
      go_wp2_with fail
      refine (first_any _ _ (by omega) (by omega)).mono ?_
      rintro en w2 ⟨rfl, rfl⟩
      go_wp2_with fail
      refine (first_any _ _ v3 (by omega)).mono ?_
      rintro en w2 ⟨rfl, rfl⟩
      go_wp2_with fail
      refine (weekday_any _ _ h1 (by omega)).mono ?_
      rintro en w2 ⟨rfl, rfl⟩
      go_wp2
      refine bodyPost_ret (v := .tuple #[.agg #[.int .i64 (y + 1), .int .i64 ((n - first (y + 1)) / 7 + 1), .int .i64 (wd n)], .int .i64 0]) (by simp [results, Try.results26, go_sem, hc]) rfl ⟨by rw [Hf.out, Hw.out]; rfl, ?_⟩
      exact Below.setCell (Below.setCell (Below.setCell (bt ((br _).alloc (Nat.le_refl _) _) hb1) (Nat.le_refl _) _) (Nat.le_refl _) _) (Nat.le_refl _) _
    · obtain rfl : y = Y := by rw [hwy, if_neg c1, if_neg c2]
      clear hwy
      go_enter Try.func26, Try.ntmps26
      go_wp2_with fail
      refine (is_any _ _).mono ?_
      rintro en w1 ⟨rfl, rfl⟩
      rw [Hi.out]
      go_wp2_with fail
      refine (rawOf_any _ _ h1 h2).mono ?_
      rintro en w1 ⟨rfl, hb1⟩
      rw [Hd.out]
      obtain ⟨hc, hz⟩ := bcell hb1
      have hsz := hb1.size
      rw [asz] at hc hz hsz
      have hfl := fld0 y M D
      go_wp2_with fail
      refine (first_any _ _ y1 (by omega)).mono ?_
      rintro en w2 ⟨rfl, rfl⟩
      go_wp2_with fail
      refine (first_any _ _ (by omega) (by omega)).mono ?_
      rintro en w2 ⟨rfl, rfl⟩
      go_wp2_with fail
      refine (first_any _ _ v3 (by omega)).mono ?_
      rintro en w2 ⟨rfl, rfl⟩
      go_wp2_with fail
      refine (weekday_any _ _ h1 (by omega)).mono ?_
      rintro en w2 ⟨rfl, rfl⟩
      go_wp2
      refine bodyPost_ret (v := .tuple #[.agg #[.int .i64 y, .int .i64 ((n - first y) / 7 + 1), .int .i64 (wd n)], .int .i64 0]) (by simp [results, Try.results26, go_sem, hc]) rfl ⟨by rw [Hf.out, Hw.out]; rfl, ?_⟩
      exact Below.setCell (Below.setCell (Below.setCell (bt ((br _).alloc (Nat.le_refl _) _) hb1) (Nat.le_refl _) _) (Nat.le_refl _) _) (Nat.le_refl _) _
  · have hf : weekF n = ((0, 0, 0), 3) := by unfold weekF; rw [if_neg h]
    have hi := isD_no (show n < 1 ∨ 3652059 < n by omega)
    have Hf := Lib.hid hf; have Hi := Lib.hid hi
    clear hf hi h
    go_enter Try.func26, Try.ntmps26
    go_wp2_with fail
    refine (is_any _ _).mono ?_
    rintro en w1 ⟨rfl, rfl⟩
    rw [Hi.out]
    go_wp2
    refine bodyPost_ret (v := .tuple #[aD (0, 0, 0), .int .i64 3]) (by simp [results, Try.results26, go_sem, aD]) rfl ⟨by rw [Hf.out], ?_⟩
    exact (br _).alloc (Nat.le_refl _) _
end Dt
end Go.Proofs.Ytjicpflgkhdppaa
