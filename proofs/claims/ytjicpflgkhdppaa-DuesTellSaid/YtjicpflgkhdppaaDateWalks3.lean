/- Package date, third part: days of dates, dates of days. -/
import Derived.Test.YtjicpflgkhdppaaDateWalks2
set_option linter.unusedSimpArgs false
set_option linter.unusedVariables false
namespace Go.Proofs.Ytjicpflgkhdppaa
open Go.RowKit
namespace Dt
/-- a date's day, with errors -/
def dayOf (y m d : Int) : Int × Int := if d < 1 ∨ len0 y m < d then (0, 3) else (raw y m d, 0)
def DayQ (y m d : Int) (w : World) (e : Ending) (w' : World) : Prop := e = .returned (.tuple #[.int .i64 (dayOf y m d).1, .int .i64 (dayOf y m d).2]) ∧ Below w.heap.size w w'
theorem valid_iff (y m d : Int) : (¬ (d < 1 ∨ len0 y m < d)) ↔ Valid y m d := by
  unfold len0
  constructor
  · intro h
    by_cases hc : 1 ≤ y ∧ y ≤ 9999 ∧ 1 ≤ m ∧ m ≤ 12
    · rw [if_pos hc] at h; exact ⟨hc.1, hc.2.1, hc.2.2.1, hc.2.2.2, by omega, by omega⟩
    · rw [if_neg hc] at h; omega
  · intro h
    rw [if_pos ⟨h.y1, h.y2, h.m1, h.m2⟩]
    have := h.d1; have := h.d2; omega
theorem dayOf_ok {y m d : Int} (h : Valid y m d) : dayOf y m d = (raw y m d, 0) := by unfold dayOf; rw [if_neg ((valid_iff y m d).2 h)]
theorem dayOf_no {y m d : Int} (h : ¬ Valid y m d) : dayOf y m d = (0, 3) := by
  unfold dayOf; rw [if_pos (Classical.not_not.1 (fun x => h ((valid_iff y m d).1 x)))]
theorem len0_bd (y m : Int) : 0 ≤ len0 y m ∧ len0 y m ≤ 31 := by
  unfold len0; split
  · rename_i h; have := len_bd y m h.2.2.1 h.2.2.2; omega
  · omega
set_option maxHeartbeats 1000000 in
theorem day_any (y m d : Int) (w : World) : Calls Try.prog 41 #[.agg #[.int .i64 y, .int .i64 m, .int .i64 d]] w (DayQ y m d w) := by
  have hlb := len0_bd y m
  by_cases h : Valid y m d
  · have hd := dayOf_ok h
    obtain ⟨h1, h2, h3, h4, h5, h6⟩ := h
    have hl : len0 y m = len y m := by unfold len0; rw [if_pos ⟨h1, h2, h3, h4⟩]
    rw [← hl] at h6
    have hg : decide (d < 1) = false := decide_eq_false (by omega)
    have hg2 : decide (len0 y m < d) = false := decide_eq_false (by omega)
    have Hd := Lib.hid hd; clear hd hl
    go_enter Try.func41, Try.ntmps41
    go_wp2_with fail
    go_quiet ((go_at_call 65; exact qz (len0_any _ _ _)))
    go_wp2_with fail
    refine (raw_any y m d _ h1 (by omega) h3 h4 (by omega) (by omega)).mono ?_
    rintro en w1 ⟨rfl, hb1⟩
    go_wp2
    go_ret2
    exact ⟨by rw [Hd.out]; rfl, bt (bn ((br _).alloc (Nat.le_refl _) _) _) hb1⟩
  · have hd := dayOf_no h
    have h' := fun x => h ((valid_iff y m d).1 x)
    have Hd := Lib.hid hd; clear hd h
    by_cases hd1 : d < 1
    · have hg : decide (d < 1) = true := decide_eq_true hd1
      clear h' hlb
      go_enter Try.func41, Try.ntmps41
      go_wp2_with fail
      go_quiet (fail)
      go_wp2
      go_ret2
      exact ⟨by rw [Hd.out]; rfl, bn ((br _).alloc (Nat.le_refl _) _) _⟩
    · have hd2 : len0 y m < d := by
        rcases Classical.em (len0 y m < d) with h | h
        · exact h
        · exact absurd (show ¬ (d < 1 ∨ len0 y m < d) by omega) h'
      have hg : decide (d < 1) = false := decide_eq_false hd1
      have hg2 : decide (len0 y m < d) = true := decide_eq_true hd2
      clear h'
      go_enter Try.func41, Try.ntmps41
      go_wp2_with fail
      go_quiet ((go_at_call 65; exact qz (len0_any _ _ _)))
      go_wp2
      go_ret2
      exact ⟨by rw [Hd.out]; rfl, bn ((br _).alloc (Nat.le_refl _) _) _⟩

def isD (n : Int) : Bool := decide (1 ≤ n ∧ n ≤ 3652059)
theorem isD_yes {n : Int} (h1 : 1 ≤ n) (h2 : n ≤ 3652059) : isD n = true := decide_eq_true ⟨h1, h2⟩
theorem isD_no {n : Int} (h : n < 1 ∨ 3652059 < n) : isD n = false := decide_eq_false (by omega)
theorem is_any (n : Int) (w : World) : Calls Try.prog 50 #[.int .i64 n] w fun e w' => e = .returned (.bool (isD n)) ∧ w = w' := by
  rcases (show n < 1 ∨ (1 ≤ n ∧ 3652059 < n) ∨ (1 ≤ n ∧ n ≤ 3652059) by omega) with h | ⟨h1, h⟩ | ⟨h1, h⟩
  · have H := Lib.hid (isD_no (.inl h))
    go_enter Try.func50, Try.ntmps50
    go_wp2
    go_ret
    exact ⟨by rw [H.out]; rfl, rfl⟩
  · have H := Lib.hid (isD_no (.inr h))
    go_enter Try.func50, Try.ntmps50
    go_wp2
    go_ret
    exact ⟨by rw [H.out]; first | rfl | (simp; done) | (simp; omega), rfl⟩
  · have H := Lib.hid (isD_yes h1 h)
    go_enter Try.func50, Try.ntmps50
    go_wp2
    go_ret
    exact ⟨by rw [H.out]; first | rfl | (simp; done) | (simp; omega), rfl⟩
theorem weekday_any (n : Int) (w : World) (h1 : 1 ≤ n) (h2 : n ≤ 1000000000) : Calls Try.prog 53 #[.int .i64 n] w fun e w' => e = .returned (.int .i64 (wd n)) ∧ w = w' := by
  go_enter Try.func53, Try.ntmps53
  go_wp2
  go_ret
  exact ⟨ret_int (by unfold wd; rfl), rfl⟩
theorem first_any (y : Int) (w : World) (h1 : 1 ≤ y) (h2 : y ≤ 20000) : Calls Try.prog 52 #[.int .i64 y] w fun e w' => e = .returned (.int .i64 (first y)) ∧ w = w' := by
  have hb := dby_bd y h1 h2
  have hw := wd_bd (dby y + 4)
  go_enter Try.func52, Try.ntmps52
  go_wp2_with (first | (go_at_call 72; refine (before_any _ _ h1 h2).mono ?_; rintro e w' ⟨rfl, rfl⟩) | (go_at_call 53; refine (weekday_any _ _ (by omega) (by omega)).mono ?_; rintro e w' ⟨rfl, rfl⟩))
  go_ret
  exact ⟨ret_int (by unfold first; rfl), rfl⟩

def aD (x : Int × Int × Int) : Value := .agg #[.int .i64 x.1, .int .i64 x.2.1, .int .i64 x.2.2]
def RawOfQ (n : Int) (w : World) (e : Ending) (w' : World) : Prop := e = .returned (aD (dateOf n)) ∧ Below w.heap.size w w'
set_option maxHeartbeats 1000000 in
theorem rawOf_any (n : Int) (w : World) (h1 : 1 ≤ n) (h2 : n ≤ 3652059) : Calls Try.prog 51 #[.int .i64 n] w (RawOfQ n w) := by
  obtain ⟨hy1, hy2, hy3, hy4⟩ := yearOf_bd n h1 h2
  obtain ⟨hv, hr⟩ := dateOf_spec n h1 h2
  have hyd : yearOf n = (dateOf n).1 := rfl
  have hx : aD (dateOf n) = .agg #[.int .i64 (yearOf n), .int .i64 (dateOf n).2.1, .int .i64 (dateOf n).2.2] := rfl
  rw [← hyd] at hv hr
  generalize (dateOf n).2.1 = M at *
  generalize (dateOf n).2.2 = D at *
  generalize hY : yearOf n = Y at *
  have hg : n / 366 + 1 ≤ Y := by unfold dby at hy4; omega
  have Hx := Lib.hid hx
  clear hx hyd hY
  go_enter Try.func51, Try.ntmps51
  go_wp2
  go_loop [3] (fun t => ∃ y : Int, 1 ≤ y ∧ y ≤ Y ∧ t = .int .i64 y) (fun t => (Y - intOf t).toNat)
  case atStart => exact ⟨_, by omega, hg, rfl⟩
  case round =>
    obtain ⟨y, k1, k2, rfl⟩ := hrel
    by_cases hc : y < Y
    · have hd := dby_mono (show y + 1 ≤ Y by omega)
      go_wp2_with (go_at_call 72; refine (before_any _ _ (by omega) (by omega)).mono ?_; rintro e w' ⟨rfl, rfl⟩)
      go_round
      case rel => exact ⟨y + 1, by omega, by omega, rfl⟩
      case measure => simp [intOf]; omega
    · obtain rfl : y = Y := by omega
      clear hc
      have hb := dby_bd y hy1 (by omega)
      go_wp2_with (go_at_call 72; refine (before_any _ _ (by omega) (by omega)).mono ?_; rintro e w' ⟨rfl, rfl⟩)
      have hrr : n - dby y = cum y M + D := by unfold raw at hr; omega
      have hm1 := hv.m1; have hm2 := hv.m2; have hd1 := hv.d1; have hd2 := hv.d2
      have Hr := Lib.hid hrr
      clear hr hrr hv hy3 hy4 hg
      go_loop [0, 4] (fun r k => ∃ m : Int, 1 ≤ m ∧ m ≤ M ∧ k = .int .i64 m ∧ r = .int .i64 (n - dby y - cum y m)) (fun _ k => (M - intOf k).toNat)
      case atStart => exact ⟨1, by omega, hm1, rfl, by rw [cum_1]; simp⟩
      case round =>
        obtain ⟨m, q1, q2, rfl, rfl⟩ := hrel
        have cb := cum_bd y m q1 (by omega)
        have lb := len_bd y m q1 (by omega)
        by_cases hc : m < M
        · have hcm := cum_mono y (m + 1) M (by omega) (by omega) (by omega)
          have hcs := cum_succ y m
          have hgt : len y m < n - dby y - cum y m := by have := Hr.out; omega
          have Hcs := Lib.hid hcs; clear hcs hcm
          go_wp2_with (go_at_call 73; refine (length_any _ _ _ (by omega) (by omega)).mono ?_; rintro e w' ⟨rfl, rfl⟩)
          go_round
          case rel => exact ⟨m + 1, by omega, by omega, rfl, by rw [Hcs.out]; go_num⟩
          case measure => simp [intOf]; omega
        · obtain rfl : m = M := by omega
          have hD : n - dby y - cum y m = D := by have := Hr.out; omega
          rw [hD]
          have hD' := Lib.hid hD
          clear hc hD
          go_wp2_with (go_at_call 73; refine (length_any _ _ _ (by omega) (by omega)).mono ?_; rintro e w' ⟨rfl, rfl⟩)
          refine bodyPost_ret (v := .agg #[.int .i64 y, .int .i64 m, .int .i64 D]) (by simp [results, Try.results51, go_sem]) rfl ⟨by rw [Hx.out], ?_⟩
          exact (br _).alloc (Nat.le_refl _) _

def ofF (n : Int) : (Int × Int × Int) × Int := if 1 ≤ n ∧ n ≤ 3652059 then (dateOf n, 0) else ((0, 0, 0), 3)
def OfQ (n : Int) (w : World) (e : Ending) (w' : World) : Prop := e = .returned (.tuple #[aD (ofF n).1, .int .i64 (ofF n).2]) ∧ Below w.heap.size w w'
set_option maxHeartbeats 1000000 in
theorem of_any (n : Int) (w : World) : Calls Try.prog 27 #[.int .i64 n] w (OfQ n w) := by
  by_cases h : 1 ≤ n ∧ n ≤ 3652059
  · have hf : ofF n = (dateOf n, 0) := by unfold ofF; rw [if_pos h]
    have hi := isD_yes h.1 h.2
    have Hf := Lib.hid hf; have Hi := Lib.hid hi
    obtain ⟨h1, h2⟩ := h
    clear hf hi
    go_enter Try.func27, Try.ntmps27
    go_wp2_with fail
    refine (is_any _ _).mono ?_
    rintro en w1 ⟨rfl, rfl⟩
    rw [Hi.out]
    go_wp2_with fail
    refine (rawOf_any _ _ h1 h2).mono ?_
    rintro en w1 ⟨rfl, hb1⟩
    unfold aD
    obtain ⟨hc, hz⟩ := bcell hb1
    have hsz := hb1.size
    rw [asz] at hc hz hsz
    go_wp2
    refine bodyPost_ret (v := .tuple #[aD (dateOf n), .int .i64 0]) (by simp [results, Try.results27, go_sem, hc, aD]) rfl ⟨by rw [Hf.out], ?_⟩
    exact Below.setCell (Below.setCell (Below.setCell (bt ((br _).alloc (Nat.le_refl _) _) hb1) (Nat.le_refl _) _) (Nat.le_refl _) _) (Nat.le_refl _) _
  · have hf : ofF n = ((0, 0, 0), 3) := by unfold ofF; rw [if_neg h]
    have hi := isD_no (show n < 1 ∨ 3652059 < n by omega)
    have Hf := Lib.hid hf; have Hi := Lib.hid hi
    clear hf hi h
    go_enter Try.func27, Try.ntmps27
    go_wp2_with fail
    refine (is_any _ _).mono ?_
    rintro en w1 ⟨rfl, rfl⟩
    rw [Hi.out]
    go_wp2
    refine bodyPost_ret (v := .tuple #[aD (0, 0, 0), .int .i64 3]) (by simp [results, Try.results27, go_sem, aD]) rfl ⟨by rw [Hf.out], ?_⟩
    exact (br _).alloc (Nat.le_refl _) _
end Dt
end Go.Proofs.Ytjicpflgkhdppaa
