/- The next day; 400 years; the days of a week: plain facts. -/
import Derived.Test.YtipgnmecahbddaaWeekPlain
namespace Go.Proofs.Ytipgnmecahbddaa
namespace Dt
def nextD (x : Int × Int × Int) : Int × Int × Int :=
  if x.2.2 = len x.1 x.2.1 then (if x.2.1 = 12 then (x.1 + 1, 1, 1) else (x.1, x.2.1 + 1, 1)) else (x.1, x.2.1, x.2.2 + 1)
theorem next_law {y m d : Int} (h : Valid y m d) (hn : raw y m d < 3652059) : dateOf (raw y m d + 1) = nextD (y, m, d) := by
  have hl := len_bd y m h.m1 h.m2
  have h1 := h.y1; have h2 := h.y2; have h3 := h.m1; have h4 := h.m2; have h5 := h.d1; have h6 := h.d2
  unfold nextD
  simp only
  by_cases c : d = len y m
  · rw [if_pos c]
    by_cases c2 : m = 12
    · rw [if_pos c2]
      have hy : y + 1 ≤ 9999 := by
        by_cases e : y = 9999
        · have : raw y m d = dby (y + 1) := by
            rw [dby_succ]; unfold raw; rw [c, c2]
            have := cum_succ y 12; rw [show (12 : Int) + 1 = 13 by decide, cum_13] at this; omega
          rw [this, e, show dby (9999 + 1) = 3652059 by decide] at hn; omega
        · omega
      have hv : Valid (y + 1) 1 1 := ⟨by omega, hy, by decide, by decide, by decide, by have := (len_vals (y + 1)).1; omega⟩
      have hr : raw (y + 1) 1 1 = raw y m d + 1 := by
        unfold raw; rw [cum_1, dby_succ, c, c2]
        have := cum_succ y 12; rw [show (12 : Int) + 1 = 13 by decide, cum_13] at this; omega
      rw [← hr]; exact dateOf_raw hv
    · rw [if_neg c2]
      have hl2 := len_bd y (m + 1) (by omega) (by omega)
      have hv : Valid y (m + 1) 1 := ⟨h1, h2, by omega, by omega, by decide, by omega⟩
      have hr : raw y (m + 1) 1 = raw y m d + 1 := by
        unfold raw; rw [cum_succ, c]; omega
      rw [← hr]; exact dateOf_raw hv
  · rw [if_neg c]
    have hv : Valid y m (d + 1) := ⟨h1, h2, h3, h4, by omega, by omega⟩
    have hr : raw y m (d + 1) = raw y m d + 1 := by unfold raw; omega
    rw [← hr]; exact dateOf_raw hv
theorem dby_cycle (y : Int) : dby (y + 400) = dby y + 146097 := by unfold dby; omega
theorem lp_cycle (y : Int) : lp (y + 400) = lp y := by
  have a := dby_succ (y + 400)
  have b := dby_succ y
  rw [show y + 400 + 1 = y + 1 + 400 by omega, dby_cycle, dby_cycle] at a
  omega
theorem cum_cycle (y m : Int) : cum (y + 400) m = cum y m := by unfold cum; rw [lp_cycle]
theorem cycle_law {y m d : Int} (h : Valid y m d) (hy : y ≤ 9599) : Valid (y + 400) m d ∧ raw (y + 400) m d = raw y m d + 146097 := by
  refine ⟨⟨by have := h.y1; omega, by omega, h.m1, h.m2, h.d1, ?_⟩, ?_⟩
  · have := h.d2; unfold len at *; rw [cum_cycle, cum_cycle]; exact this
  · unfold raw; rw [cum_cycle, dby_cycle]; omega
theorem first_cycle (y : Int) : first (y + 400) = first y + 146097 := by
  have a := first_bd (y + 400)
  have b := first_bd y
  have c := dby_cycle y
  omega
theorem week_cycle (n : Int) (h1 : 1 ≤ n) (h2 : n + 146097 ≤ 3652059) : week (n + 146097) = ((week n).1 + 400, (week n).2.1, (week n).2.2) := by
  obtain ⟨a, b, _, _⟩ := wyear_spec n h1 (by omega)
  have f1 := first_cycle (wyear n)
  have f2 := first_cycle (wyear n + 1)
  rw [show wyear n + 1 + 400 = wyear n + 400 + 1 by omega] at f2
  have hw := wyear_uniq (n + 146097) (wyear n + 400) (by omega) h2 (by omega) (by omega)
  unfold week
  rw [hw, f1]
  refine Prod.ext rfl (Prod.ext ?_ ?_)
  · show (n + 146097 - (first (wyear n) + 146097)) / 7 + 1 = _
    congr 2; omega
  · show wd (n + 146097) = wd n; unfold wd; omega
/-- the Monday of a day's week -/
theorem monday_law (n : Int) (h1 : 1 ≤ n) (h2 : n ≤ 3652059) : 1 ≤ n - wd n + 1 ∧ n - wd n + 1 ≤ 3652059 ∧ week (n - wd n + 1) = ((week n).1, (week n).2.1, 1) := by
  obtain ⟨a, b, _, _⟩ := wyear_spec n h1 h2
  have f := first_bd (wyear n)
  have hm : 1 ≤ n - wd n + 1 ∧ n - wd n + 1 ≤ n ∧ first (wyear n) ≤ n - wd n + 1 := by unfold wd; omega
  have hw := wyear_uniq (n - wd n + 1) (wyear n) hm.1 (by omega) hm.2.2 (by omega)
  refine ⟨hm.1, by omega, ?_⟩
  unfold week
  rw [hw]
  refine Prod.ext rfl (Prod.ext ?_ ?_)
  · show (n - wd n + 1 - first (wyear n)) / 7 + 1 = (n - first (wyear n)) / 7 + 1
    unfold wd at *; omega
  · show wd (n - wd n + 1) = 1; unfold wd; omega
theorem thursday_law (n : Int) (h1 : 1 ≤ n) (h2 : n ≤ 3652059) (h3 : thu n ≤ 3652059) : 1 ≤ thu n ∧ yearOf (thu n) = (week n).1 := by
  have h4 : 1 ≤ thu n := by unfold thu wd; omega
  obtain ⟨_, _, y3, y4⟩ := yearOf_bd (thu n) h4 h3
  exact ⟨h4, (wyear_thu n (yearOf (thu n)) h1 h2 y3 y4).1.symm⟩
end Dt
end Go.Proofs.Ytipgnmecahbddaa
