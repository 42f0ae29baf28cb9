/- Weeks: plain facts on whole numbers. -/
import Derived.Test.YtcgncmlldjblmaaDatePlain
set_option linter.unusedSimpArgs false
set_option linter.unusedVariables false
namespace Go.Proofs.Ytcgncmlldjblmaa
namespace Dt

def wd (n : Int) : Int := (n - 1) % 7 + 1
def first (y : Int) : Int := dby y + 4 - (wd (dby y + 4) - 1)
def yearOf (n : Int) : Int := (dateOf n).1
def wyear (n : Int) : Int := if n < first (yearOf n) then yearOf n - 1 else if first (yearOf n + 1) ≤ n then yearOf n + 1 else yearOf n
def week (n : Int) : Int × Int × Int := (wyear n, (n - first (wyear n)) / 7 + 1, wd n)
def ofWeek (y k d : Int) : Int × Int :=
  if 1 ≤ y ∧ y ≤ 9999 ∧ 1 ≤ k ∧ k ≤ 53 ∧ 1 ≤ d ∧ d ≤ 7 then
    (if (1 ≤ first y + 7 * (k - 1) + d - 1 ∧ first y + 7 * (k - 1) + d - 1 ≤ 3652059) ∧ first y + 7 * (k - 1) + d - 1 - d + 1 < first (y + 1) then (first y + 7 * (k - 1) + d - 1, 0) else (0, 3))
  else (0, 3)

theorem wd_bd (n : Int) : 1 ≤ wd n ∧ wd n ≤ 7 := by unfold wd; omega
theorem first_bd (y : Int) : dby y - 2 ≤ first y ∧ first y ≤ dby y + 4 ∧ (first y - 1) % 7 = 0 := by unfold first wd; omega
theorem first_succ (y : Int) : first (y + 1) = first y + 364 ∨ first (y + 1) = first y + 371 := by
  have a := first_bd y
  have b := first_bd (y + 1)
  have c := dby_succ y
  have d := lp_01 y
  omega
theorem first_mono {a b : Int} (h : a ≤ b) : first a ≤ first b := by
  have a1 := first_bd a
  have b1 := first_bd b
  rcases (show a = b ∨ a < b by omega) with rfl | h1
  · exact Int.le_refl _
  · have := dby_lt h1; omega
theorem first_lt {a b : Int} (h : a < b) : first a + 364 ≤ first b := by
  have h1 := first_succ a
  have h2 := first_mono (show a + 1 ≤ b by omega)
  omega
theorem yearOf_bd (n : Int) (h1 : 1 ≤ n) (h2 : n ≤ 3652059) : 1 ≤ yearOf n ∧ yearOf n ≤ 9999 ∧ dby (yearOf n) < n ∧ n ≤ dby (yearOf n + 1) := by
  obtain ⟨v, e⟩ := dateOf_spec n h1 h2
  have := raw_year v
  rw [e] at this
  exact ⟨v.y1, v.y2, this⟩
theorem yearOf_uniq (n y : Int) (h1 : 1 ≤ n) (h2 : n ≤ 3652059) (h3 : dby y < n) (h4 : n ≤ dby (y + 1)) : yearOf n = y := by
  obtain ⟨_, _, a, b⟩ := yearOf_bd n h1 h2
  rcases Int.lt_trichotomy (yearOf n) y with h | h | h
  · have := dby_mono (show yearOf n + 1 ≤ y by omega); omega
  · exact h
  · have := dby_mono (show y + 1 ≤ yearOf n by omega); omega
theorem wyear_spec (n : Int) (h1 : 1 ≤ n) (h2 : n ≤ 3652059) : first (wyear n) ≤ n ∧ n < first (wyear n + 1) ∧ 1 ≤ wyear n ∧ wyear n ≤ 10000 := by
  obtain ⟨a, b, c, d⟩ := yearOf_bd n h1 h2
  have f0 := first_bd (yearOf n)
  have f1 := first_bd (yearOf n + 1)
  have f2 := first_succ (yearOf n)
  have g1 := first_succ (yearOf n + 1)
  have g0 := first_succ (yearOf n - 1)
  rw [show yearOf n - 1 + 1 = yearOf n by omega] at g0
  have e1 : first 1 = 1 := by decide
  unfold wyear
  by_cases h : n < first (yearOf n)
  · rw [if_pos h]
    rw [show yearOf n - 1 + 1 = yearOf n by omega]
    refine ⟨by omega, h, ?_, by omega⟩
    by_cases hy : yearOf n = 1
    · rw [hy, e1] at h; omega
    · omega
  · rw [if_neg h]
    by_cases h' : first (yearOf n + 1) ≤ n
    · rw [if_pos h']; exact ⟨h', by omega, by omega, by omega⟩
    · rw [if_neg h']; exact ⟨by omega, by omega, by omega, by omega⟩
theorem wyear_uniq (n y : Int) (h1 : 1 ≤ n) (h2 : n ≤ 3652059) (h3 : first y ≤ n) (h4 : n < first (y + 1)) : wyear n = y := by
  obtain ⟨a, b, _, _⟩ := wyear_spec n h1 h2
  rcases Int.lt_trichotomy (wyear n) y with h | h | h
  · have := first_mono (show wyear n + 1 ≤ y by omega); omega
  · exact h
  · have := first_mono (show y + 1 ≤ wyear n by omega); omega
theorem week_bd (n : Int) (h1 : 1 ≤ n) (h2 : n ≤ 3652059) : 1 ≤ (week n).2.1 ∧ (week n).2.1 ≤ 53 ∧ n = first (wyear n) + 7 * ((week n).2.1 - 1) + wd n - 1 := by
  obtain ⟨a, b, _, _⟩ := wyear_spec n h1 h2
  have c := first_succ (wyear n)
  have d := first_bd (wyear n)
  show 1 ≤ (n - first (wyear n)) / 7 + 1 ∧ (n - first (wyear n)) / 7 + 1 ≤ 53 ∧ n = first (wyear n) + 7 * ((n - first (wyear n)) / 7 + 1 - 1) + wd n - 1
  unfold wd
  omega
/-- a day by its week, back -/
theorem ofWeek_week (n : Int) (h1 : 1 ≤ n) (h2 : n ≤ 3652059) (hy : wyear n ≤ 9999) : ofWeek (week n).1 (week n).2.1 (week n).2.2 = (n, 0) := by
  obtain ⟨a, b, c, _⟩ := wyear_spec n h1 h2
  obtain ⟨d, e, f⟩ := week_bd n h1 h2
  have g := wd_bd n
  show ofWeek (wyear n) (week n).2.1 (wd n) = _
  unfold ofWeek
  rw [if_pos (by omega), if_pos (by omega)]
  rw [← f]
theorem week_ofWeek (y k d n : Int) (h : ofWeek y k d = (n, 0)) : 1 ≤ n ∧ n ≤ 3652059 ∧ week n = (y, k, d) := by
  unfold ofWeek at h
  by_cases h1 : 1 ≤ y ∧ y ≤ 9999 ∧ 1 ≤ k ∧ k ≤ 53 ∧ 1 ≤ d ∧ d ≤ 7
  · rw [if_pos h1] at h
    by_cases h2 : (1 ≤ first y + 7 * (k - 1) + d - 1 ∧ first y + 7 * (k - 1) + d - 1 ≤ 3652059) ∧ first y + 7 * (k - 1) + d - 1 - d + 1 < first (y + 1)
    · rw [if_pos h2] at h
      obtain rfl : first y + 7 * (k - 1) + d - 1 = n := by injection h
      have f := first_bd y
      have f1 := first_bd (y + 1)
      have hw := wyear_uniq _ y h2.1.1 h2.1.2 (by omega) (by omega)
      refine ⟨h2.1.1, h2.1.2, ?_⟩
      unfold week
      rw [hw]
      refine Prod.ext rfl (Prod.ext ?_ ?_)
      · show (_ - first y) / 7 + 1 = k; omega
      · show wd _ = d; unfold wd; omega
    · rw [if_neg h2] at h; simp at h
  · rw [if_neg h1] at h; simp at h
theorem ofWeek_err (y k d : Int) : (ofWeek y k d).2 = 0 ∨ (ofWeek y k d = (0, 3)) := by
  unfold ofWeek; split
  · split
    · exact .inl rfl
    · exact .inr rfl
  · exact .inr rfl
/-- a week is of the year of its Thursday -/
def thu (n : Int) : Int := n + 4 - wd n
theorem wyear_thu (n y : Int) (h1 : 1 ≤ n) (h2 : n ≤ 3652059) (h3 : dby y < thu n) (h4 : thu n ≤ dby (y + 1)) : wyear n = y ∧ (thu n - dby y - 1) / 7 + 1 = (week n).2.1 := by
  have f := first_bd y
  have f1 := first_bd (y + 1)
  have g : first y ≤ n ∧ n < first (y + 1) ∧ (thu n - dby y - 1) / 7 = (n - first y) / 7 := by
    unfold thu wd at *; omega
  have hw := wyear_uniq n y h1 h2 g.1 g.2.1
  refine ⟨hw, ?_⟩
  show _ = (n - first (wyear n)) / 7 + 1
  rw [hw]; omega
end Dt
end Go.Proofs.Ytcgncmlldjblmaa
