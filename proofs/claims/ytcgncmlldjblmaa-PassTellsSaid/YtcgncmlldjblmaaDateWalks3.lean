/- Package date, third part: days of dates, dates of days. -/
import Derived.Test.YtcgncmlldjblmaaDateWalks2
set_option linter.unusedSimpArgs false
set_option linter.unusedVariables false
namespace Go.Proofs.Ytcgncmlldjblmaa
open Go.RowKit
namespace Dt
/-- a date's day, with errors -/
def dayOf (y m d : Int) : Int × Int := if d < 1 ∨ len0 y m < d then (0, 3) else (raw y m d, 0)
def DayQ (y m d : Int) (w : World) (e : Ending) (w' : World) : Prop := e = .returned (.tuple #[.int .i64 (dayOf y m d).1, .int .i64 (dayOf y m d).2]) ∧ Below w.heap.size w w'
theorem valid_iff (y m d : Int) : (¬ (d < 1 ∨ len0 y m < d)) ↔ Valid y m d := by
  unfold len0
  constructor
  · intro h
    by_cases hc : 1 ≤ y ∧ y ≤ 9999 ∧ 1 ≤ m ∧ m ≤ 12
    · rw [if_pos hc] at h; exact ⟨hc.1, hc.2.1, hc.2.2.1, hc.2.2.2, by omega, by omega⟩
    · rw [if_neg hc] at h; omega
  · intro h
    rw [if_pos ⟨h.y1, h.y2, h.m1, h.m2⟩]
    have := h.d1; have := h.d2; omega
theorem dayOf_ok {y m d : Int} (h : Valid y m d) : dayOf y m d = (raw y m d, 0) := by unfold dayOf; rw [if_neg ((valid_iff y m d).2 h)]
theorem dayOf_no {y m d : Int} (h : ¬ Valid y m d) : dayOf y m d = (0, 3) := by
  unfold dayOf; rw [if_pos (Classical.not_not.1 (fun x => h ((valid_iff y m d).1 x)))]
theorem len0_bd (y m : Int) : 0 ≤ len0 y m ∧ len0 y m ≤ 31 := by
  unfold len0; split
  · rename_i h; have := len_bd y m h.2.2.1 h.2.2.2; omega
  · omega

def isD (n : Int) : Bool := decide (1 ≤ n ∧ n ≤ 3652059)
theorem isD_yes {n : Int} (h1 : 1 ≤ n) (h2 : n ≤ 3652059) : isD n = true := decide_eq_true ⟨h1, h2⟩
theorem isD_no {n : Int} (h : n < 1 ∨ 3652059 < n) : isD n = false := decide_eq_false (by omega)
theorem is_any (n : Int) (w : World) : Calls Try.prog 26 #[.int .i64 n] w fun e w' => e = .returned (.bool (isD n)) ∧ w = w' := by
  rcases (show n < 1 ∨ (1 ≤ n ∧ 3652059 < n) ∨ (1 ≤ n ∧ n ≤ 3652059) by omega) with h | ⟨h1, h⟩ | ⟨h1, h⟩
  · have H := Lib.hid (isD_no (.inl h))
    go_enter Try.func26, Try.ntmps26
    go_wp2
    go_ret
    exact ⟨by rw [H.out]; rfl, rfl⟩
  · have H := Lib.hid (isD_no (.inr h))
    go_enter Try.func26, Try.ntmps26
    go_wp2
    go_ret
    exact ⟨by rw [H.out]; first | rfl | (simp; done) | (simp; omega), rfl⟩
  · have H := Lib.hid (isD_yes h1 h)
    go_enter Try.func26, Try.ntmps26
    go_wp2
    go_ret
    exact ⟨by rw [H.out]; first | rfl | (simp; done) | (simp; omega), rfl⟩

def aD (x : Int × Int × Int) : Value := .agg #[.int .i64 x.1, .int .i64 x.2.1, .int .i64 x.2.2]
def RawOfQ (n : Int) (w : World) (e : Ending) (w' : World) : Prop := e = .returned (aD (dateOf n)) ∧ Below w.heap.size w w'
set_option maxHeartbeats 1000000 in
theorem rawOf_any (n : Int) (w : World) (h1 : 1 ≤ n) (h2 : n ≤ 3652059) : Calls Try.prog 74 #[.int .i64 n] w (RawOfQ n w) := by
  obtain ⟨hy1, hy2, hy3, hy4⟩ := yearOf_bd n h1 h2
  obtain ⟨hv, hr⟩ := dateOf_spec n h1 h2
  have hyd : yearOf n = (dateOf n).1 := rfl
  have hx : aD (dateOf n) = .agg #[.int .i64 (yearOf n), .int .i64 (dateOf n).2.1, .int .i64 (dateOf n).2.2] := rfl
  rw [← hyd] at hv hr
  generalize (dateOf n).2.1 = M at *
  generalize (dateOf n).2.2 = D at *
  generalize hY : yearOf n = Y at *
  have hg : n / 366 + 1 ≤ Y := by unfold dby at hy4; omega
  have Hx := Lib.hid hx
  clear hx hyd hY
  go_enter Try.func74, Try.ntmps74
  go_wp2
  go_loop [3] (fun t => ∃ y : Int, 1 ≤ y ∧ y ≤ Y ∧ t = .int .i64 y) (fun t => (Y - intOf t).toNat)
  case atStart => exact ⟨_, by omega, hg, rfl⟩
  case round =>
    obtain ⟨y, k1, k2, rfl⟩ := hrel
    by_cases hc : y < Y
    · have hd := dby_mono (show y + 1 ≤ Y by omega)
      go_wp2_with (go_at_call 80; refine (before_any _ _ (by omega) (by omega)).mono ?_; rintro e w' ⟨rfl, rfl⟩)
      go_round
      case rel => exact ⟨y + 1, by omega, by omega, rfl⟩
      case measure => simp [intOf]; omega
    · obtain rfl : y = Y := by omega
      clear hc
      have hb := dby_bd y hy1 (by omega)
      go_wp2_with (go_at_call 80; refine (before_any _ _ (by omega) (by omega)).mono ?_; rintro e w' ⟨rfl, rfl⟩)
      have hrr : n - dby y = cum y M + D := by unfold raw at hr; omega
      have hm1 := hv.m1; have hm2 := hv.m2; have hd1 := hv.d1; have hd2 := hv.d2
      have Hr := Lib.hid hrr
      clear hr hrr hv hy3 hy4 hg
      go_loop [0, 4] (fun r k => ∃ m : Int, 1 ≤ m ∧ m ≤ M ∧ k = .int .i64 m ∧ r = .int .i64 (n - dby y - cum y m)) (fun _ k => (M - intOf k).toNat)
      case atStart => exact ⟨1, by omega, hm1, rfl, by rw [cum_1]; simp⟩
      case round =>
        obtain ⟨m, q1, q2, rfl, rfl⟩ := hrel
        have cb := cum_bd y m q1 (by omega)
        have lb := len_bd y m q1 (by omega)
        by_cases hc : m < M
        · have hcm := cum_mono y (m + 1) M (by omega) (by omega) (by omega)
          have hcs := cum_succ y m
          have hgt : len y m < n - dby y - cum y m := by have := Hr.out; omega
          have Hcs := Lib.hid hcs; clear hcs hcm
          go_wp2_with (go_at_call 81; refine (length_any _ _ _ (by omega) (by omega)).mono ?_; rintro e w' ⟨rfl, rfl⟩)
          go_round
          case rel => exact ⟨m + 1, by omega, by omega, rfl, by rw [Hcs.out]; go_num⟩
          case measure => simp [intOf]; omega
        · obtain rfl : m = M := by omega
          have hD : n - dby y - cum y m = D := by have := Hr.out; omega
          rw [hD]
          have hD' := Lib.hid hD
          clear hc hD
          go_wp2_with (go_at_call 81; refine (length_any _ _ _ (by omega) (by omega)).mono ?_; rintro e w' ⟨rfl, rfl⟩)
          refine bodyPost_ret (v := .agg #[.int .i64 y, .int .i64 m, .int .i64 D]) (by simp [results, Try.results74, go_sem]) rfl ⟨by rw [Hx.out], ?_⟩
          exact (br _).alloc (Nat.le_refl _) _

def ofF (n : Int) : (Int × Int × Int) × Int := if 1 ≤ n ∧ n ≤ 3652059 then (dateOf n, 0) else ((0, 0, 0), 3)
def OfQ (n : Int) (w : World) (e : Ending) (w' : World) : Prop := e = .returned (.tuple #[aD (ofF n).1, .int .i64 (ofF n).2]) ∧ Below w.heap.size w w'
end Dt
end Go.Proofs.Ytcgncmlldjblmaa
