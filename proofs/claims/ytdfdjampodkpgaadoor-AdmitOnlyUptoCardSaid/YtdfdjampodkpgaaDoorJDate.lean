/- Joined by shake.py: DatePlain WeekPlain DateWalks DateWalks2 DateWalks3 Floor DateRef DateRef2w TermPlain TermWalks TermWalks2 TermRef. -/
import Derived.Test.YtdfdjampodkpgaaDoorJBase
import Derived.Test.YtdfdjampodkpgaaDoorProg
import Derived.WalkKit
import Derived.Lib.Hide
import Derived.Outline
import Derived.Deep.RegionHeld3
import Derived.Deep.RegionWith
import Derived.Deep.LoopGhost
set_option linter.unusedSimpArgs false
set_option linter.unusedVariables false

/-! DatePlain -/
section
/- Dates and numbers of days, weeks: plain facts on whole numbers, no program in sight. -/
set_option linter.unusedSimpArgs false
set_option linter.unusedVariables false
namespace Go.Proofs.YtdfdjampodkpgaaDoor
namespace Dt

def leapB (y : Int) : Bool := (y % 4 == 0) && ((y % 100 != 0) || (y % 400 == 0))
def lp (y : Int) : Int := if leapB y then 1 else 0
/-- days ahead of a year -/
def dby (y : Int) : Int := 365 * (y - 1) + (y - 1) / 4 - (y - 1) / 100 + (y - 1) / 400
/-- days ahead of a month in a year -/
def cum (y m : Int) : Int :=
  if m ≤ 1 then 0 else if m = 2 then 31 else lp y + (if m = 3 then 59 else if m = 4 then 90 else if m = 5 then 120 else if m = 6 then 151 else if m = 7 then 181 else if m = 8 then 212 else
    if m = 9 then 243 else if m = 10 then 273 else if m = 11 then 304 else if m = 12 then 334 else 365)
/-- a month's length -/
def len (y m : Int) : Int := cum y (m + 1) - cum y m
def len0 (y m : Int) : Int := if 1 ≤ y ∧ y ≤ 9999 ∧ 1 ≤ m ∧ m ≤ 12 then len y m else 0
def raw (y m d : Int) : Int := dby y + cum y m + d
structure Valid (y m d : Int) : Prop where
  y1 : 1 ≤ y
  y2 : y ≤ 9999
  m1 : 1 ≤ m
  m2 : m ≤ 12
  d1 : 1 ≤ d
  d2 : d ≤ len y m
def lastDay : Int := 3652059

theorem lp_01 (y : Int) : lp y = 0 ∨ lp y = 1 := by unfold lp; split <;> simp
theorem leap_iff (y : Int) : leapB y = true ↔ y % 4 = 0 ∧ (y % 100 ≠ 0 ∨ y % 400 = 0) := by simp [leapB]
theorem dby_succ (y : Int) : dby (y + 1) = dby y + 365 + lp y := by
  unfold dby lp
  by_cases h : leapB y = true
  · rw [if_pos h]; rw [leap_iff] at h; omega
  · rw [if_neg h]; rw [leap_iff] at h; omega
theorem dby_mono {a b : Int} (h : a ≤ b) : dby a ≤ dby b := by unfold dby; omega
theorem dby_lt {a b : Int} (h : a < b) : dby a + 365 ≤ dby b := by
  have h1 := dby_succ a
  have h2 := lp_01 a
  have h3 : dby (a + 1) ≤ dby b := dby_mono (by omega)
  omega
theorem month_cases {m : Int} (h1 : 1 ≤ m) (h2 : m ≤ 12) : m = 1 ∨ m = 2 ∨ m = 3 ∨ m = 4 ∨ m = 5 ∨ m = 6 ∨ m = 7 ∨ m = 8 ∨ m = 9 ∨ m = 10 ∨ m = 11 ∨ m = 12 := by omega
theorem cum_succ (y m : Int) : cum y (m + 1) = cum y m + len y m := by unfold len; omega
theorem cum_1 (y : Int) : cum y 1 = 0 := by simp [cum]
theorem cum_13 (y : Int) : cum y 13 = 365 + lp y := by simp [cum]; omega
theorem len_bd (y m : Int) (h1 : 1 ≤ m) (h2 : m ≤ 12) : 28 ≤ len y m ∧ len y m ≤ 31 := by
  have := lp_01 y
  rcases month_cases h1 h2 with rfl | rfl | rfl | rfl | rfl | rfl | rfl | rfl | rfl | rfl | rfl | rfl <;> simp [len, cum] <;> omega
theorem cum_mono (y m k : Int) (h1 : 1 ≤ m) (h : m ≤ k) (h2 : k ≤ 13) : cum y m ≤ cum y k := by
  have := lp_01 y
  rcases (show k = 13 ∨ k ≤ 12 by omega) with rfl | h3
  · rcases (show m = 13 ∨ m ≤ 12 by omega) with rfl | h4
    · exact Int.le_refl _
    · rcases month_cases h1 h4 with rfl | rfl | rfl | rfl | rfl | rfl | rfl | rfl | rfl | rfl | rfl | rfl <;> simp [cum] <;> omega
  · rcases month_cases h1 (by omega) with rfl | rfl | rfl | rfl | rfl | rfl | rfl | rfl | rfl | rfl | rfl | rfl <;>
      rcases month_cases (show 1 ≤ k by omega) h3 with rfl | rfl | rfl | rfl | rfl | rfl | rfl | rfl | rfl | rfl | rfl | rfl <;> first | omega | (simp [cum]; omega) | simp [cum]
theorem len_vals (y : Int) : len y 1 = 31 ∧ len y 2 = 28 + lp y ∧ len y 3 = 31 ∧ len y 4 = 30 ∧ len y 5 = 31 ∧ len y 6 = 30 ∧ len y 7 = 31 ∧ len y 8 = 31 ∧ len y 9 = 30 ∧ len y 10 = 31 ∧ len y 11 = 30 ∧ len y 12 = 31 := by
  simp [len, cum]; omega
theorem cum_le (y m d : Int) (h1 : 1 ≤ m) (h2 : m ≤ 12) (h3 : 1 ≤ d) (h4 : d ≤ len y m) : 1 ≤ cum y m + d ∧ cum y m + d ≤ 365 + lp y := by
  have a := cum_mono y 1 m (by omega) h1 (by omega)
  have b := cum_mono y (m + 1) 13 (by omega) (by omega) (by omega)
  rw [cum_1] at a
  rw [cum_succ, cum_13] at b
  omega
theorem raw_year {y m d : Int} (h : Valid y m d) : dby y < raw y m d ∧ raw y m d ≤ dby (y + 1) := by
  have := cum_le y m d h.m1 h.m2 h.d1 h.d2
  have := dby_succ y
  unfold raw; omega
theorem raw_bd {y m d : Int} (h : Valid y m d) : 1 ≤ raw y m d ∧ raw y m d ≤ 3652059 := by
  have a := raw_year h
  have b : dby 1 ≤ dby y := dby_mono h.y1
  have c : dby (y + 1) ≤ dby 10000 := dby_mono (by have := h.y2; omega)
  have d1 : dby 1 = 0 := by decide
  have d2 : dby 10000 = 3652059 := by decide
  omega
/-- a number tells its date -/
theorem raw_inj {y m d y' m' d' : Int} (h : Valid y m d) (h' : Valid y' m' d') (e : raw y m d = raw y' m' d') : y = y' ∧ m = m' ∧ d = d' := by
  have a := raw_year h
  have b := raw_year h'
  have hy : y = y' := by
    rcases Int.lt_trichotomy y y' with hl | rfl | hl
    · have := dby_mono (show y + 1 ≤ y' by omega); omega
    · rfl
    · have := dby_mono (show y' + 1 ≤ y by omega); omega
  subst hy
  have hm : m = m' := by
    rcases Int.lt_trichotomy m m' with hl | rfl | hl
    · have := cum_mono y (m + 1) m' (by have := h.m1; omega) (by omega) (by have := h'.m2; omega)
      rw [cum_succ] at this
      have := h.d2; have := h'.d1; unfold raw at e; omega
    · rfl
    · have := cum_mono y (m' + 1) m (by have := h'.m1; omega) (by omega) (by have := h.m2; omega)
      rw [cum_succ] at this
      have := h'.d2; have := h.d1; unfold raw at e; omega
  subst hm
  unfold raw at e
  exact ⟨rfl, rfl, by omega⟩

/-! ### the date of a number, reckoned by eras of 400 years that begin with a March -/
def yoe (r : Int) : Int := (r - r / 1460 + r / 36524 - r / 146096) / 365
def doy (r : Int) : Int := r - (365 * yoe r + yoe r / 4 - yoe r / 100)
def mp (r : Int) : Int := (5 * doy r + 2) / 153
def dom (r : Int) : Int := doy r - (153 * mp r + 2) / 5 + 1
def dateOf (n : Int) : Int × Int × Int :=
  let e := (n + 305) / 146097
  let r := (n + 305) % 146097
  if mp r + 3 > 12 then (e * 400 + yoe r + 1, mp r - 9, dom r) else (e * 400 + yoe r, mp r + 3, dom r)

def gg (r : Int) : Int := r - r / 1460 + r / 36524 - r / 146096
def sy (y : Int) : Int := 365 * y + y / 4 - y / 100 + y / 400
theorem gg_mono (r q : Int) (h : r ≤ q) : gg r ≤ gg q := by unfold gg; omega
theorem gg_year : ∀ y : Fin 400, 365 * (y.val : Int) ≤ gg (sy y.val) ∧ gg (sy (y.val + 1) - 1) ≤ 365 * (y.val : Int) + 364 := by decide +kernel
theorem sy_find (r : Int) (h0 : 0 ≤ r) : ∀ n : Nat, r < sy n → ∃ y : Nat, y < n ∧ sy y ≤ r ∧ r < sy (y + 1)
  | 0, h => by simp [sy] at h; omega
  | n + 1, h => by
    by_cases hn : r < sy n
    · obtain ⟨y, h1, h2, h3⟩ := sy_find r h0 n hn
      exact ⟨y, by omega, h2, h3⟩
    · exact ⟨n, by omega, by omega, by simpa using h⟩
theorem yoe_spec (r : Int) (h0 : 0 ≤ r) (h1 : r < 146097) : 0 ≤ yoe r ∧ yoe r ≤ 399 ∧ sy (yoe r) ≤ r ∧ r < sy (yoe r + 1) := by
  obtain ⟨y, h2, h3, h4⟩ := sy_find r h0 400 (by have : sy ((400 : Nat) : Int) = 146097 := by decide
                                                 omega)
  obtain ⟨a, b⟩ := gg_year ⟨y, h2⟩
  simp only at a b
  have c := gg_mono (sy y) r h3
  have d := gg_mono r (sy (y + 1) - 1) (by omega)
  have e : yoe r = y := by
    show gg r / 365 = y
    omega
  rw [e]
  exact ⟨by omega, by omega, h3, h4⟩
/-- day of the year that begins with a March, and its month and day -/
theorem day_table : ∀ i : Fin 366, let d : Int := i.val; let m := (5 * d + 2) / 153; let k := d - (153 * m + 2) / 5 + 1;
    0 ≤ m ∧ m ≤ 11 ∧ 1 ≤ k ∧
    (m ≤ 9 → k ≤ cum 1 (m + 4) - cum 1 (m + 3) ∧ cum 1 (m + 3) + k = d + 60) ∧
    (m = 10 → k ≤ 31 ∧ k = d - 305) ∧ (m = 11 → k ≤ 29 ∧ k = d - 336 ∧ (d ≤ 364 → k ≤ 28)) := by decide +kernel
theorem cum_late (y m : Int) (h : 3 ≤ m) : cum y m = cum 1 m + lp y := by
  have : lp 1 = 0 := by decide
  have h1 : ¬ m ≤ 1 := by omega
  have h2 : ¬ m = 2 := by omega
  simp only [cum, if_neg h1, if_neg h2]
  omega
theorem lp_sy (y : Int) : lp y = sy y - sy (y - 1) - 365 := by
  have h := dby_succ y
  unfold dby at h; unfold sy
  rw [show y + 1 - 1 = y by omega] at h
  omega
theorem dby_sy (y : Int) : dby y = sy (y - 1) := by unfold dby sy; omega
theorem lp_era (y e : Int) : lp (e * 400 + y) = lp y := by
  rw [lp_sy, lp_sy]; unfold sy; omega
theorem sy_era (y e : Int) : sy (e * 400 + y) = e * 146097 + sy y := by unfold sy; omega

theorem dateOf_spec (n : Int) (h1 : 1 ≤ n) (h2 : n ≤ 3652059) :
    Valid (dateOf n).1 (dateOf n).2.1 (dateOf n).2.2 ∧ raw (dateOf n).1 (dateOf n).2.1 (dateOf n).2.2 = n := by
  have hr0 : 0 ≤ (n + 305) % 146097 := by omega
  have hr1 : (n + 305) % 146097 < 146097 := by omega
  have hn : n = (n + 305) / 146097 * 146097 + (n + 305) % 146097 - 305 := by omega
  have he0 : 0 ≤ (n + 305) / 146097 := by omega
  have he1 : (n + 305) / 146097 ≤ 24 := by omega
  have he2 : (n + 305) / 146097 = 24 → (n + 305) % 146097 ≤ 146036 := by omega
  unfold dateOf
  simp only
  generalize (n + 305) / 146097 = e at *
  generalize (n + 305) % 146097 = r at *
  obtain ⟨y0, y1, y2, y3⟩ := yoe_spec r hr0 hr1
  have hd : doy r = r - (sy (yoe r)) := by
    have : yoe r / 400 = 0 := by omega
    unfold doy sy; omega
  have hlp := lp_sy (yoe r + 1)
  rw [show yoe r + 1 - 1 = yoe r by omega] at hlp
  have hl01 := lp_01 (yoe r + 1)
  have hd0 : 0 ≤ doy r := by omega
  have hd1 : doy r ≤ 364 + lp (yoe r + 1) := by omega
  have ht := day_table ⟨(doy r).toNat, by omega⟩
  simp only [Int.toNat_of_nonneg hd0] at ht
  have hmp : (5 * doy r + 2) / 153 = mp r := rfl
  have hdom : doy r - (153 * mp r + 2) / 5 + 1 = dom r := rfl
  rw [hmp, hdom] at ht
  obtain ⟨m0, m1, k1, t1, t2, t3⟩ := ht
  have hlv := len_vals
  by_cases hm : mp r + 3 > 12
  · rw [if_pos hm]
    simp only
    have hera : lp (e * 400 + yoe r + 1) = lp (yoe r + 1) := by rw [show e * 400 + yoe r + 1 = e * 400 + (yoe r + 1) by omega, lp_era]
    have hdby : dby (e * 400 + yoe r + 1) = e * 146097 + sy (yoe r) := by rw [dby_sy, show e * 400 + yoe r + 1 - 1 = e * 400 + yoe r by omega, sy_era]
    rcases (show mp r = 10 ∨ mp r = 11 by omega) with hm' | hm'
    · obtain ⟨a, b⟩ := t2 hm'
      rw [hm'] at hm ⊢
      have l1 := (hlv (e * 400 + yoe r + 1)).1
      refine ⟨⟨by omega, ?_, by decide, by decide, k1, by show dom r ≤ len _ 1; omega⟩, ?_⟩
      · have : e = 24 → yoe r ≤ 398 := by
          intro he; have := he2 he
          by_cases h : yoe r = 399
          · rw [h] at y2 hd; have : sy 399 = 145731 := by decide
            omega
          · omega
        omega
      · show dby _ + cum _ 1 + dom r = n
        rw [cum_1, hdby]; omega
    · obtain ⟨a, b, c⟩ := t3 hm'
      rw [hm'] at hm ⊢
      have l1 := (hlv (e * 400 + yoe r + 1)).2.1
      refine ⟨⟨by omega, ?_, by decide, by decide, k1, by show dom r ≤ len _ 2; omega⟩, ?_⟩
      · have : e = 24 → yoe r ≤ 398 := by
          intro he; have := he2 he
          by_cases h : yoe r = 399
          · rw [h] at y2 hd; have : sy 399 = 145731 := by decide
            omega
          · omega
        omega
      · show dby _ + cum _ 2 + dom r = n
        rw [show cum (e * 400 + yoe r + 1) 2 = 31 by simp [cum], hdby]; omega
  · rw [if_neg hm]
    simp only
    obtain ⟨a, b⟩ := t1 (by omega)
    have hera : lp (e * 400 + yoe r) = lp (yoe r) := lp_era _ _
    have hdby : dby (e * 400 + yoe r) = e * 146097 + sy (yoe r - 1) := by rw [dby_sy, show e * 400 + yoe r - 1 = e * 400 + (yoe r - 1) by omega, sy_era]
    have hlp2 := lp_sy (yoe r)
    have c1 := cum_late (e * 400 + yoe r) (mp r + 3) (by omega)
    have c2 := cum_late (e * 400 + yoe r) (mp r + 3 + 1) (by omega)
    have hlen : len (e * 400 + yoe r) (mp r + 3) = cum 1 (mp r + 4) - cum 1 (mp r + 3) := by
      unfold len; rw [c1, c2, show mp r + 3 + 1 = mp r + 4 by omega]; omega
    refine ⟨⟨?_, ?_, by omega, by omega, k1, by rw [hlen]; omega⟩, ?_⟩
    · by_cases he : e = 0
      · subst he
        by_cases h : yoe r = 0
        · rw [h] at hd; have : sy 0 = 0 := by decide
          omega
        · omega
      · omega
    · by_cases he : e = 24
      · have := he2 he; omega
      · omega
    · unfold raw; rw [c1, hdby, hera]; omega
theorem dateOf_raw {y m d : Int} (h : Valid y m d) : dateOf (raw y m d) = (y, m, d) := by
  have hb := raw_bd h
  obtain ⟨v, e⟩ := dateOf_spec (raw y m d) hb.1 hb.2
  obtain ⟨a, b, c⟩ := raw_inj v h e
  exact Prod.ext a (Prod.ext b c)
end Dt
end Go.Proofs.YtdfdjampodkpgaaDoor
end

/-! WeekPlain -/
section
/- Weeks: plain facts on whole numbers. -/
set_option linter.unusedSimpArgs false
set_option linter.unusedVariables false
namespace Go.Proofs.YtdfdjampodkpgaaDoor
namespace Dt

def wd (n : Int) : Int := (n - 1) % 7 + 1
def first (y : Int) : Int := dby y + 4 - (wd (dby y + 4) - 1)
def yearOf (n : Int) : Int := (dateOf n).1
def wyear (n : Int) : Int := if n < first (yearOf n) then yearOf n - 1 else if first (yearOf n + 1) ≤ n then yearOf n + 1 else yearOf n
def week (n : Int) : Int × Int × Int := (wyear n, (n - first (wyear n)) / 7 + 1, wd n)
def ofWeek (y k d : Int) : Int × Int :=
  if 1 ≤ y ∧ y ≤ 9999 ∧ 1 ≤ k ∧ k ≤ 53 ∧ 1 ≤ d ∧ d ≤ 7 then
    (if (1 ≤ first y + 7 * (k - 1) + d - 1 ∧ first y + 7 * (k - 1) + d - 1 ≤ 3652059) ∧ first y + 7 * (k - 1) + d - 1 - d + 1 < first (y + 1) then (first y + 7 * (k - 1) + d - 1, 0) else (0, 3))
  else (0, 3)

theorem wd_bd (n : Int) : 1 ≤ wd n ∧ wd n ≤ 7 := by unfold wd; omega
theorem first_bd (y : Int) : dby y - 2 ≤ first y ∧ first y ≤ dby y + 4 ∧ (first y - 1) % 7 = 0 := by unfold first wd; omega
theorem first_succ (y : Int) : first (y + 1) = first y + 364 ∨ first (y + 1) = first y + 371 := by
  have a := first_bd y
  have b := first_bd (y + 1)
  have c := dby_succ y
  have d := lp_01 y
  omega
theorem first_mono {a b : Int} (h : a ≤ b) : first a ≤ first b := by
  have a1 := first_bd a
  have b1 := first_bd b
  rcases (show a = b ∨ a < b by omega) with rfl | h1
  · exact Int.le_refl _
  · have := dby_lt h1; omega
theorem first_lt {a b : Int} (h : a < b) : first a + 364 ≤ first b := by
  have h1 := first_succ a
  have h2 := first_mono (show a + 1 ≤ b by omega)
  omega
theorem yearOf_bd (n : Int) (h1 : 1 ≤ n) (h2 : n ≤ 3652059) : 1 ≤ yearOf n ∧ yearOf n ≤ 9999 ∧ dby (yearOf n) < n ∧ n ≤ dby (yearOf n + 1) := by
  obtain ⟨v, e⟩ := dateOf_spec n h1 h2
  have := raw_year v
  rw [e] at this
  exact ⟨v.y1, v.y2, this⟩
theorem yearOf_uniq (n y : Int) (h1 : 1 ≤ n) (h2 : n ≤ 3652059) (h3 : dby y < n) (h4 : n ≤ dby (y + 1)) : yearOf n = y := by
  obtain ⟨_, _, a, b⟩ := yearOf_bd n h1 h2
  rcases Int.lt_trichotomy (yearOf n) y with h | h | h
  · have := dby_mono (show yearOf n + 1 ≤ y by omega); omega
  · exact h
  · have := dby_mono (show y + 1 ≤ yearOf n by omega); omega
theorem wyear_spec (n : Int) (h1 : 1 ≤ n) (h2 : n ≤ 3652059) : first (wyear n) ≤ n ∧ n < first (wyear n + 1) ∧ 1 ≤ wyear n ∧ wyear n ≤ 10000 := by
  obtain ⟨a, b, c, d⟩ := yearOf_bd n h1 h2
  have f0 := first_bd (yearOf n)
  have f1 := first_bd (yearOf n + 1)
  have f2 := first_succ (yearOf n)
  have g1 := first_succ (yearOf n + 1)
  have g0 := first_succ (yearOf n - 1)
  rw [show yearOf n - 1 + 1 = yearOf n by omega] at g0
  have e1 : first 1 = 1 := by decide
  unfold wyear
  by_cases h : n < first (yearOf n)
  · rw [if_pos h]
    rw [show yearOf n - 1 + 1 = yearOf n by omega]
    refine ⟨by omega, h, ?_, by omega⟩
    by_cases hy : yearOf n = 1
    · rw [hy, e1] at h; omega
    · omega
  · rw [if_neg h]
    by_cases h' : first (yearOf n + 1) ≤ n
    · rw [if_pos h']; exact ⟨h', by omega, by omega, by omega⟩
    · rw [if_neg h']; exact ⟨by omega, by omega, by omega, by omega⟩
theorem wyear_uniq (n y : Int) (h1 : 1 ≤ n) (h2 : n ≤ 3652059) (h3 : first y ≤ n) (h4 : n < first (y + 1)) : wyear n = y := by
  obtain ⟨a, b, _, _⟩ := wyear_spec n h1 h2
  rcases Int.lt_trichotomy (wyear n) y with h | h | h
  · have := first_mono (show wyear n + 1 ≤ y by omega); omega
  · exact h
  · have := first_mono (show y + 1 ≤ wyear n by omega); omega
theorem week_bd (n : Int) (h1 : 1 ≤ n) (h2 : n ≤ 3652059) : 1 ≤ (week n).2.1 ∧ (week n).2.1 ≤ 53 ∧ n = first (wyear n) + 7 * ((week n).2.1 - 1) + wd n - 1 := by
  obtain ⟨a, b, _, _⟩ := wyear_spec n h1 h2
  have c := first_succ (wyear n)
  have d := first_bd (wyear n)
  show 1 ≤ (n - first (wyear n)) / 7 + 1 ∧ (n - first (wyear n)) / 7 + 1 ≤ 53 ∧ n = first (wyear n) + 7 * ((n - first (wyear n)) / 7 + 1 - 1) + wd n - 1
  unfold wd
  omega
/-- a day by its week, back -/
theorem ofWeek_week (n : Int) (h1 : 1 ≤ n) (h2 : n ≤ 3652059) (hy : wyear n ≤ 9999) : ofWeek (week n).1 (week n).2.1 (week n).2.2 = (n, 0) := by
  obtain ⟨a, b, c, _⟩ := wyear_spec n h1 h2
  obtain ⟨d, e, f⟩ := week_bd n h1 h2
  have g := wd_bd n
  show ofWeek (wyear n) (week n).2.1 (wd n) = _
  unfold ofWeek
  rw [if_pos (by omega), if_pos (by omega)]
  rw [← f]
theorem week_ofWeek (y k d n : Int) (h : ofWeek y k d = (n, 0)) : 1 ≤ n ∧ n ≤ 3652059 ∧ week n = (y, k, d) := by
  unfold ofWeek at h
  by_cases h1 : 1 ≤ y ∧ y ≤ 9999 ∧ 1 ≤ k ∧ k ≤ 53 ∧ 1 ≤ d ∧ d ≤ 7
  · rw [if_pos h1] at h
    by_cases h2 : (1 ≤ first y + 7 * (k - 1) + d - 1 ∧ first y + 7 * (k - 1) + d - 1 ≤ 3652059) ∧ first y + 7 * (k - 1) + d - 1 - d + 1 < first (y + 1)
    · rw [if_pos h2] at h
      obtain rfl : first y + 7 * (k - 1) + d - 1 = n := by injection h
      have f := first_bd y
      have f1 := first_bd (y + 1)
      have hw := wyear_uniq _ y h2.1.1 h2.1.2 (by omega) (by omega)
      refine ⟨h2.1.1, h2.1.2, ?_⟩
      unfold week
      rw [hw]
      refine Prod.ext rfl (Prod.ext ?_ ?_)
      · show (_ - first y) / 7 + 1 = k; omega
      · show wd _ = d; unfold wd; omega
    · rw [if_neg h2] at h; simp at h
  · rw [if_neg h1] at h; simp at h
theorem ofWeek_err (y k d : Int) : (ofWeek y k d).2 = 0 ∨ (ofWeek y k d = (0, 3)) := by
  unfold ofWeek; split
  · split
    · exact .inl rfl
    · exact .inr rfl
  · exact .inr rfl
/-- a week is of the year of its Thursday -/
def thu (n : Int) : Int := n + 4 - wd n
theorem wyear_thu (n y : Int) (h1 : 1 ≤ n) (h2 : n ≤ 3652059) (h3 : dby y < thu n) (h4 : thu n ≤ dby (y + 1)) : wyear n = y ∧ (thu n - dby y - 1) / 7 + 1 = (week n).2.1 := by
  have f := first_bd y
  have f1 := first_bd (y + 1)
  have g : first y ≤ n ∧ n < first (y + 1) ∧ (thu n - dby y - 1) / 7 = (n - first y) / 7 := by
    unfold thu wd at *; omega
  have hw := wyear_uniq n y h1 h2 g.1 g.2.1
  refine ⟨hw, ?_⟩
  show _ = (n - first (wyear n)) / 7 + 1
  rw [hw]; omega
end Dt
end Go.Proofs.YtdfdjampodkpgaaDoor
end

/-! DateWalks -/
section
/- Package date: its functions and their contracts. -/
set_option linter.unusedSimpArgs false
set_option linter.unusedVariables false
namespace Go.Proofs.YtdfdjampodkpgaaDoor
open Go.RowKit
namespace Dt

theorem tmod_beq (y k : Int) : (y.tmod k == 0) = (y % k == 0) := by
  rw [Bool.eq_iff_iff, beq_iff_eq, beq_iff_eq]
  exact ⟨fun h => Int.emod_eq_zero_of_dvd (Int.dvd_of_tmod_eq_zero h), fun h => Int.tmod_eq_zero_of_dvd (Int.dvd_of_emod_eq_zero h)⟩
theorem tmod_bne (y k : Int) : (y.tmod k != 0) = (y % k != 0) := by unfold bne; rw [tmod_beq]

def lens : Array Value := #[.int .i64 31, .int .i64 28, .int .i64 31, .int .i64 30, .int .i64 31, .int .i64 30, .int .i64 31, .int .i64 31, .int .i64 30, .int .i64 31, .int .i64 30, .int .i64 31]
end Dt
end Go.Proofs.YtdfdjampodkpgaaDoor
end

/-! DateWalks2 -/
section
/- Package date, second part: numbers of dates, and back. -/
set_option linter.unusedSimpArgs false
set_option linter.unusedVariables false
namespace Go.Proofs.YtdfdjampodkpgaaDoor
open Go.RowKit
namespace Dt

def rawQ (y m d : Int) (w : World) (e : Ending) (w' : World) : Prop := e = .returned (.int .i64 (raw y m d)) ∧ Below w.heap.size w w'
theorem dby_bd (y : Int) (h1 : 1 ≤ y) (h2 : y ≤ 20000) : 0 ≤ dby y ∧ dby y ≤ 7400000 := by unfold dby; omega
theorem cum_bd (y m : Int) (h1 : 1 ≤ m) (h2 : m ≤ 13) : 0 ≤ cum y m ∧ cum y m ≤ 366 := by
  have a := cum_mono y 1 m (by omega) h1 h2
  have b := cum_mono y m 13 h1 h2 (by omega)
  have := lp_01 y
  rw [cum_1] at a; rw [cum_13] at b; omega
end Dt
end Go.Proofs.YtdfdjampodkpgaaDoor
end

/-! DateWalks3 -/
section
/- Package date, third part: days of dates, dates of days. -/
set_option linter.unusedSimpArgs false
set_option linter.unusedVariables false
namespace Go.Proofs.YtdfdjampodkpgaaDoor
open Go.RowKit
namespace Dt
/-- a date's day, with errors -/
def dayOf (y m d : Int) : Int × Int := if d < 1 ∨ len0 y m < d then (0, 3) else (raw y m d, 0)
def DayQ (y m d : Int) (w : World) (e : Ending) (w' : World) : Prop := e = .returned (.tuple #[.int .i64 (dayOf y m d).1, .int .i64 (dayOf y m d).2]) ∧ Below w.heap.size w w'
theorem valid_iff (y m d : Int) : (¬ (d < 1 ∨ len0 y m < d)) ↔ Valid y m d := by
  unfold len0
  constructor
  · intro h
    by_cases hc : 1 ≤ y ∧ y ≤ 9999 ∧ 1 ≤ m ∧ m ≤ 12
    · rw [if_pos hc] at h; exact ⟨hc.1, hc.2.1, hc.2.2.1, hc.2.2.2, by omega, by omega⟩
    · rw [if_neg hc] at h; omega
  · intro h
    rw [if_pos ⟨h.y1, h.y2, h.m1, h.m2⟩]
    have := h.d1; have := h.d2; omega
theorem dayOf_ok {y m d : Int} (h : Valid y m d) : dayOf y m d = (raw y m d, 0) := by unfold dayOf; rw [if_neg ((valid_iff y m d).2 h)]
theorem dayOf_no {y m d : Int} (h : ¬ Valid y m d) : dayOf y m d = (0, 3) := by
  unfold dayOf; rw [if_pos (Classical.not_not.1 (fun x => h ((valid_iff y m d).1 x)))]
theorem len0_bd (y m : Int) : 0 ≤ len0 y m ∧ len0 y m ≤ 31 := by
  unfold len0; split
  · rename_i h; have := len_bd y m h.2.2.1 h.2.2.2; omega
  · omega

def isD (n : Int) : Bool := decide (1 ≤ n ∧ n ≤ 3652059)
theorem isD_yes {n : Int} (h1 : 1 ≤ n) (h2 : n ≤ 3652059) : isD n = true := decide_eq_true ⟨h1, h2⟩
theorem isD_no {n : Int} (h : n < 1 ∨ 3652059 < n) : isD n = false := decide_eq_false (by omega)
theorem is_any (n : Int) (w : World) : Calls Tryd.prog 52 #[.int .i64 n] w fun e w' => e = .returned (.bool (isD n)) ∧ w = w' := by
  rcases (show n < 1 ∨ (1 ≤ n ∧ 3652059 < n) ∨ (1 ≤ n ∧ n ≤ 3652059) by omega) with h | ⟨h1, h⟩ | ⟨h1, h⟩
  · have H := Lib.hid (isD_no (.inl h))
    go_enter Tryd.func52, Tryd.ntmps52
    go_wp2
    go_ret
    exact ⟨by rw [H.out]; rfl, rfl⟩
  · have H := Lib.hid (isD_no (.inr h))
    go_enter Tryd.func52, Tryd.ntmps52
    go_wp2
    go_ret
    exact ⟨by rw [H.out]; first | rfl | (simp; done) | (simp; omega), rfl⟩
  · have H := Lib.hid (isD_yes h1 h)
    go_enter Tryd.func52, Tryd.ntmps52
    go_wp2
    go_ret
    exact ⟨by rw [H.out]; first | rfl | (simp; done) | (simp; omega), rfl⟩

def aD (x : Int × Int × Int) : Value := .agg #[.int .i64 x.1, .int .i64 x.2.1, .int .i64 x.2.2]
def RawOfQ (n : Int) (w : World) (e : Ending) (w' : World) : Prop := e = .returned (aD (dateOf n)) ∧ Below w.heap.size w w'

def ofF (n : Int) : (Int × Int × Int) × Int := if 1 ≤ n ∧ n ≤ 3652059 then (dateOf n, 0) else ((0, 0, 0), 3)
def OfQ (n : Int) (w : World) (e : Ending) (w' : World) : Prop := e = .returned (.tuple #[aD (ofF n).1, .int .i64 (ofF n).2]) ∧ Below w.heap.size w w'
end Dt
end Go.Proofs.YtdfdjampodkpgaaDoor
end

/-! Floor -/
section
/- The document's division of whole numbers, downward. -/
set_option linter.unusedSimpArgs false
set_option linter.unusedVariables false
namespace Go.Proofs.YtdfdjampodkpgaaDoor
open Go.RowKit
theorem tdiv_neg' (a b : Int) (h0 : a < 0) (h1 : 1 ≤ b) : a.tdiv b = if a % b = 0 then a / b else a / b + 1 := by
  have h := Int.tdiv_eq_ediv (a := a) (b := b)
  rw [h]
  by_cases hd : b ∣ a
  · rw [if_pos (.inr hd), if_pos (Int.emod_eq_zero_of_dvd hd)]; omega
  · rw [if_neg (by intro x; rcases x with x | x; omega; exact hd x), if_neg (fun x => hd (Int.dvd_of_emod_eq_zero x)), Int.sign_eq_one_of_pos (by omega)]
end Go.Proofs.YtdfdjampodkpgaaDoor
end

/-! DateRef -/
section
/- The document's functions on dates and weeks, and their contracts. -/
set_option linter.unusedSimpArgs false
set_option linter.unusedVariables false
namespace Go.Proofs.YtdfdjampodkpgaaDoor
open Go.RowKit
namespace Dt

/-- by eras of 400 years that begin with a March -/
theorem eras (y m d : Int) (h3 : 1 ≤ m) (h4 : m ≤ 12) :
    raw y m d = if m < 3 then (y - 1) / 400 * 146097 + (y - 1 - (y - 1) / 400 * 400) * 365 + (y - 1 - (y - 1) / 400 * 400) / 4 - (y - 1 - (y - 1) / 400 * 400) / 100 + (153 * (m - 3 + 12) + 2) / 5 + d - 306
      else y / 400 * 146097 + (y - y / 400 * 400) * 365 + (y - y / 400 * 400) / 4 - (y - y / 400 * 400) / 100 + (153 * (m - 3) + 2) / 5 + d - 306 := by
  have hd := dby_succ y
  have h1 : dby (y + 1) = 365 * y + y / 4 - y / 100 + y / 400 := by unfold dby; rw [show y + 1 - 1 = y by omega]
  unfold raw
  rcases month_cases h3 h4 with rfl | rfl | rfl | rfl | rfl | rfl | rfl | rfl | rfl | rfl | rfl | rfl
  all_goals simp [cum]
  · unfold dby; omega
  · unfold dby; omega
  all_goals omega
def RefDayQ (y m d : Int) (w : World) (e : Ending) (w' : World) : Prop := e = .returned (.int .i64 (raw y m d)) ∧ Below w.heap.size w w'
end Dt
end Go.Proofs.YtdfdjampodkpgaaDoor
end

/-! DateRef2w -/
section
/- The document's functions on dates and weeks, second part. -/
set_option linter.unusedSimpArgs false
set_option linter.unusedVariables false
namespace Go.Proofs.YtdfdjampodkpgaaDoor
open Go.RowKit
namespace Dt

end Dt
end Go.Proofs.YtdfdjampodkpgaaDoor
end

/-! TermPlain -/
section
/- Terms: plain facts on whole numbers, no program in sight. -/
set_option linter.unusedSimpArgs false
set_option linter.unusedVariables false
namespace Go.Proofs.YtdfdjampodkpgaaDoor
namespace Dt
/-- the days ahead of a month that is counted through; its length -/
def S (t : Int) : Int := dby (t / 12) + cum (t / 12) (t % 12 + 1)
def L (t : Int) : Int := len (t / 12) (t % 12 + 1)
theorem L_bd (t : Int) : 28 ≤ L t ∧ L t ≤ 31 := len_bd _ _ (by omega) (by omega)
theorem S_succ (t : Int) : S (t + 1) = S t + L t := by
  unfold S L
  by_cases h : t % 12 = 11
  · have h1 : (t + 1) / 12 = t / 12 + 1 := by omega
    have h2 : (t + 1) % 12 = 0 := by omega
    rw [h1, h2, h, dby_succ]
    have h3 := cum_succ (t / 12) 12
    rw [show (12 : Int) + 1 = 13 by rfl, cum_13] at h3
    rw [show (11 : Int) + 1 = 12 by rfl, show (0 : Int) + 1 = 1 by rfl, cum_1]
    omega
  · have h1 : (t + 1) / 12 = t / 12 := by omega
    have h2 : (t + 1) % 12 = t % 12 + 1 := by omega
    rw [h1, h2, cum_succ]; omega
theorem S_lt_nat (t : Int) : ∀ k : Nat, S t + L t ≤ S (t + (k + 1 : Nat))
  | 0 => by have := S_succ t; simp; omega
  | k + 1 => by
    have h := S_lt_nat t k
    have h2 := S_succ (t + (k + 1 : Nat))
    have h3 := L_bd (t + (k + 1 : Nat))
    rw [show t + ((k + 1 + 1 : Nat) : Int) = t + ((k + 1 : Nat) : Int) + 1 by omega]
    omega
theorem S_lt {t u : Int} (h : t < u) : S t + L t ≤ S u := by
  have := S_lt_nat t (u - t - 1).toNat
  rw [show t + (((u - t - 1).toNat + 1 : Nat) : Int) = u by omega] at this
  exact this
/-- the month of a day, counted through -/
def mo (n : Int) : Int := 12 * (dateOf n).1 + ((dateOf n).2.1 - 1)
def dm (n : Int) : Int := (dateOf n).2.2
def dayAt (t d : Int) : Int := if t / 12 > 9999 then 3652060 else S t + min d (L t)
def monthsF (n many : Int) : Int := dayAt (mo n + many) (dm n)
theorem mo_spec {n : Int} (h1 : 1 ≤ n) (h2 : n ≤ 3652059) : 12 ≤ mo n ∧ mo n ≤ 119999 ∧ 1 ≤ dm n ∧ dm n ≤ L (mo n) ∧ S (mo n) + dm n = n := by
  obtain ⟨v, e⟩ := dateOf_spec n h1 h2
  have a1 := v.y1; have a2 := v.y2; have a3 := v.m1; have a4 := v.m2; have a5 := v.d1; have a6 := v.d2
  unfold mo dm
  generalize (dateOf n).1 = y at *
  generalize (dateOf n).2.1 = m at *
  generalize (dateOf n).2.2 = d at *
  have e1 : (12 * y + (m - 1)) / 12 = y := by omega
  have e2 : (12 * y + (m - 1)) % 12 + 1 = m := by omega
  unfold S L
  rw [e1, e2]
  unfold raw at e
  exact ⟨by omega, by omega, a5, a6, e⟩
theorem dayAt_bd {t d : Int} (h1 : 12 ≤ t) (h2 : t ≤ 119999) (hd : 1 ≤ d) : 1 ≤ dayAt t d ∧ dayAt t d ≤ 3652059 := by
  have hl := L_bd t
  unfold dayAt
  rw [if_neg (by omega)]
  have v : Valid (t / 12) (t % 12 + 1) (min d (L t)) := ⟨by omega, by omega, by omega, by omega, by omega, by show _ ≤ L t; omega⟩
  exact raw_bd v
theorem dayAt_over {t d : Int} (h : 119999 < t) : dayAt t d = 3652060 := by unfold dayAt; rw [if_pos (by omega)]
theorem dayAt_date {t d : Int} (h1 : 12 ≤ t) (h2 : t ≤ 119999) (hd : 1 ≤ d) : dateOf (dayAt t d) = (t / 12, t % 12 + 1, min d (L t)) := by
  have hl := L_bd t
  unfold dayAt
  rw [if_neg (by omega)]
  have v : Valid (t / 12) (t % 12 + 1) (min d (L t)) := ⟨by omega, by omega, by omega, by omega, by omega, by show _ ≤ L t; omega⟩
  exact dateOf_raw v
theorem dayAt_lt {t u d e : Int} (h0 : 12 ≤ t) (h : t < u) (hd : 1 ≤ d) (he : 1 ≤ e) (hu : u ≤ 119999) : dayAt t d < dayAt u e := by
  have h1 := S_lt h
  have h2 := L_bd u
  unfold dayAt
  rw [if_neg (by omega), if_neg (by omega)]
  omega
theorem dayAt_mono {t u d e : Int} (h0 : 12 ≤ t) (h : t < u ∨ (t = u ∧ d ≤ e)) (hd : 1 ≤ d) (he : 1 ≤ e) : dayAt t d ≤ dayAt u e := by
  by_cases hu : u ≤ 119999
  · rcases h with h | ⟨rfl, h⟩
    · exact Int.le_of_lt (dayAt_lt h0 h hd he hu)
    · unfold dayAt
      rw [if_neg (by omega), if_neg (by omega)]; omega
  · rw [dayAt_over (by omega : 119999 < u)]
    by_cases ht : t ≤ 119999
    · have := (dayAt_bd h0 ht hd).2; omega
    · rw [dayAt_over (by omega)]; omega
theorem mo_order {a b : Int} (h : a ≤ b) (h1 : 1 ≤ a) (h2 : b ≤ 3652059) : mo a < mo b ∨ (mo a = mo b ∧ dm a ≤ dm b) := by
  obtain ⟨a1, a2, a3, a4, a5⟩ := mo_spec h1 (by omega)
  obtain ⟨b1, b2, b3, b4, b5⟩ := mo_spec (by omega : 1 ≤ b) h2
  rcases Int.lt_trichotomy (mo a) (mo b) with g | g | g
  · exact .inl g
  · rw [g] at a5 a4; exact .inr ⟨g, by omega⟩
  · have := S_lt g; omega
theorem months_mono {a b p q : Int} (h : a ≤ b) (h1 : 1 ≤ a) (h2 : b ≤ 3652059) (hp : 0 ≤ p) (hq : p ≤ q) : monthsF a p ≤ monthsF b q := by
  obtain ⟨a1, a2, a3, a4, a5⟩ := mo_spec h1 (by omega)
  obtain ⟨b1, b2, b3, b4, b5⟩ := mo_spec (by omega : 1 ≤ b) h2
  have := mo_order h h1 h2
  exact dayAt_mono (by omega) (by omega) a3 b3
theorem months_lt {a b p q : Int} (h : a ≤ b) (h1 : 1 ≤ a) (h2 : b ≤ 3652059) (hp : 0 ≤ p) (hq : p < q) (hv : monthsF b q ≤ 3652059) : monthsF a p < monthsF b q := by
  obtain ⟨a1, a2, a3, a4, a5⟩ := mo_spec h1 (by omega)
  obtain ⟨b1, b2, b3, b4, b5⟩ := mo_spec (by omega : 1 ≤ b) h2
  have := mo_order h h1 h2
  by_cases hu : mo b + q ≤ 119999
  · exact dayAt_lt (by omega) (by omega) a3 b3 hu
  · unfold monthsF at hv; rw [dayAt_over (by omega)] at hv; omega
theorem months_zero {n : Int} (h1 : 1 ≤ n) (h2 : n ≤ 3652059) : monthsF n 0 = n := by
  obtain ⟨a1, a2, a3, a4, a5⟩ := mo_spec h1 h2
  unfold monthsF dayAt
  rw [Int.add_zero, if_neg (by omega), Int.min_eq_left a4, a5]
theorem months_pos {n p : Int} (h1 : 1 ≤ n) (h2 : n ≤ 3652059) (hp : 0 ≤ p) : 1 ≤ monthsF n p := by
  have := months_mono (Int.le_refl n) h1 h2 (Int.le_refl 0) hp
  rw [months_zero h1 h2] at this; omega
theorem months_cases {n p : Int} (h1 : 1 ≤ n) (h2 : n ≤ 3652059) (hp : 0 ≤ p) : (mo n + p ≤ 119999 ∧ monthsF n p ≤ 3652059) ∨ (119999 < mo n + p ∧ monthsF n p = 3652060) := by
  obtain ⟨a1, a2, a3, a4, a5⟩ := mo_spec h1 h2
  by_cases h : mo n + p ≤ 119999
  · exact .inl ⟨h, (dayAt_bd (by omega) h a3).2⟩
  · exact .inr ⟨by omega, dayAt_over (by omega)⟩
/-- a term's beginning -/
def rawT (u N s k : Int) : Int := if u = 1 then s + N * k else if u = 2 then s + 7 * (N * k) else if u = 4 then monthsF s (12 * (N * k)) else monthsF s (N * k)
theorem mul_bd {N k : Int} (h1 : 1 ≤ N) (h2 : N ≤ 120) (h3 : 0 ≤ k) (h4 : k ≤ 1001) : 0 ≤ N * k ∧ N * k ≤ 120120 ∧ k ≤ N * k := by
  have a := Int.mul_nonneg (by omega : 0 ≤ N) h3
  have b := Int.mul_le_mul h2 h4 h3 (by omega)
  have c := Int.mul_le_mul_of_nonneg_right h1 h3
  omega
theorem mul_mono {N k j : Int} (h1 : 1 ≤ N) (h : k ≤ j) : N * k ≤ N * j := Int.mul_le_mul_of_nonneg_left h (by omega)
theorem mul_lt {N k j : Int} (h1 : 1 ≤ N) (h : k < j) : N * k < N * j := by
  have := mul_mono h1 (show k + 1 ≤ j by omega)
  rw [Int.mul_add, Int.mul_one] at this; omega
theorem rawT_mono {u N a b k j : Int} (h : a ≤ b) (h1 : 1 ≤ a) (h2 : b ≤ 3652059) (hN : 1 ≤ N) (hk : 0 ≤ k) (hj : k ≤ j) : rawT u N a k ≤ rawT u N b j := by
  have m0 := Int.mul_nonneg (by omega : 0 ≤ N) hk
  have m1 := mul_mono hN hj
  unfold rawT
  by_cases e1 : u = 1
  · rw [if_pos e1, if_pos e1]; omega
  · rw [if_neg e1, if_neg e1]
    by_cases e2 : u = 2
    · rw [if_pos e2, if_pos e2]; omega
    · rw [if_neg e2, if_neg e2]
      by_cases e3 : u = 4
      · rw [if_pos e3, if_pos e3]; exact months_mono h h1 h2 (by omega) (by omega)
      · rw [if_neg e3, if_neg e3]; exact months_mono h h1 h2 (by omega) (by omega)
theorem rawT_lt {u N a b k j : Int} (h : a ≤ b) (h1 : 1 ≤ a) (h2 : b ≤ 3652059) (hN : 1 ≤ N) (hk : 0 ≤ k) (hj : k < j) (hv : rawT u N b j ≤ 3652059) : rawT u N a k < rawT u N b j := by
  have m0 := Int.mul_nonneg (by omega : 0 ≤ N) hk
  have m1 := mul_lt hN hj
  unfold rawT at *
  by_cases e1 : u = 1
  · rw [if_pos e1, if_pos e1]; omega
  · rw [if_neg e1] at hv ⊢; rw [if_neg e1]
    by_cases e2 : u = 2
    · rw [if_pos e2, if_pos e2]; omega
    · rw [if_neg e2] at hv ⊢; rw [if_neg e2]
      by_cases e3 : u = 4
      · rw [if_pos e3] at hv ⊢; rw [if_pos e3]; exact months_lt h h1 h2 (by omega) (by omega) hv
      · rw [if_neg e3] at hv ⊢; rw [if_neg e3]; exact months_lt h h1 h2 (by omega) (by omega) hv
theorem rawT_zero {u N s : Int} (h1 : 1 ≤ s) (h2 : s ≤ 3652059) : rawT u N s 0 = s := by
  unfold rawT
  rw [Int.mul_zero, Int.mul_zero, Int.add_zero, Int.mul_zero, months_zero h1 h2]
  simp
theorem rawT_pos {u N s k : Int} (h1 : 1 ≤ s) (h2 : s ≤ 3652059) (hN : 1 ≤ N) (hk : 0 ≤ k) : s ≤ rawT u N s k := by
  have := rawT_mono (u := u) (Int.le_refl s) h1 h2 hN (Int.le_refl 0) hk
  rw [rawT_zero h1 h2] at this; exact this
theorem rawT_bd {u N s k : Int} (h1 : 1 ≤ s) (h2 : s ≤ 3652059) (hN : 1 ≤ N) (hN2 : N ≤ 120) (hk : 0 ≤ k) (hk2 : k ≤ 1001) : 1 ≤ rawT u N s k ∧ rawT u N s k ≤ 10000000 := by
  have m0 := mul_bd hN hN2 hk hk2
  have := rawT_pos (u := u) h1 h2 hN hk
  refine ⟨by omega, ?_⟩
  unfold rawT
  by_cases e1 : u = 1
  · rw [if_pos e1]; omega
  · rw [if_neg e1]
    by_cases e2 : u = 2
    · rw [if_pos e2]; omega
    · rw [if_neg e2]
      by_cases e3 : u = 4
      · rw [if_pos e3]; rcases months_cases h1 h2 (by omega : 0 ≤ 12 * (N * k)) with h | h <;> omega
      · rw [if_neg e3]; rcases months_cases h1 h2 m0.1 with h | h <;> omega
/-- checks and answers -/
def tchk (u N : Int) : Int := if u < 1 ∨ 4 < u then 7 else if N < 1 ∨ 120 < N then 3 else 0
theorem tchk_ok {u N : Int} (h : tchk u N = 0) : 1 ≤ u ∧ u ≤ 4 ∧ 1 ≤ N ∧ N ≤ 120 := by
  unfold tchk at h
  by_cases h1 : u < 1 ∨ 4 < u
  · rw [if_pos h1] at h; simp at h
  · rw [if_neg h1] at h
    by_cases h2 : N < 1 ∨ 120 < N
    · rw [if_pos h2] at h; simp at h
    · omega
def nthF (u N s k : Int) : Int × Int :=
  if tchk u N ≠ 0 then (0, tchk u N) else if s < 1 ∨ 3652059 < s ∨ k < 0 ∨ 1000 < k then (0, 3) else if 3652059 < rawT u N s k then (0, 8) else (rawT u N s k, 0)
theorem nth_cases (u N s k : Int) : (∃ c : Int, nthF u N s k = (0, c) ∧ c ≠ 0) ∨ ((1 ≤ u ∧ u ≤ 4 ∧ 1 ≤ N ∧ N ≤ 120) ∧ (1 ≤ s ∧ s ≤ 3652059 ∧ 0 ≤ k ∧ k ≤ 1000) ∧ rawT u N s k ≤ 3652059 ∧ nthF u N s k = (rawT u N s k, 0)) := by
  unfold nthF
  by_cases h1 : tchk u N = 0
  · rw [if_neg (fun x => x h1)]
    by_cases h2 : s < 1 ∨ 3652059 < s ∨ k < 0 ∨ 1000 < k
    · rw [if_pos h2]; exact .inl ⟨3, rfl, by decide⟩
    · rw [if_neg h2]
      by_cases h3 : 3652059 < rawT u N s k
      · rw [if_pos h3]; exact .inl ⟨8, rfl, by decide⟩
      · rw [if_neg h3]; exact .inr ⟨tchk_ok h1, by omega, by omega, rfl⟩
  · rw [if_pos h1]; exact .inl ⟨_, rfl, h1⟩
/-- the first k that is so, of those below n; n: none -/
def firstF (p : Nat → Bool) : Nat → Nat
  | 0 => 0
  | n + 1 => if firstF p n < n then firstF p n else if p n = true ∧ firstF p n = n then n else n + 1
theorem first_spec (p : Nat → Bool) : ∀ n, firstF p n ≤ n ∧ (∀ t, t < firstF p n → p t = false) ∧ (firstF p n < n → p (firstF p n) = true)
  | 0 => ⟨Nat.le_refl _, fun t ht => absurd ht (Nat.not_lt_zero _), fun h => absurd h (Nat.not_lt_zero _)⟩
  | n + 1 => by
    obtain ⟨h1, h2, h3⟩ := first_spec p n
    by_cases a : firstF p n < n
    · have e : firstF p (n + 1) = firstF p n := by show (if _ then _ else _) = _; rw [if_pos a]
      rw [e]; exact ⟨by omega, h2, fun _ => h3 a⟩
    · have a' : firstF p n = n := by omega
      by_cases b : p n = true
      · have e : firstF p (n + 1) = n := by show (if _ then _ else _) = _; rw [if_neg a, if_pos ⟨b, a'⟩]
        rw [e]; exact ⟨by omega, by rw [a'] at h2; exact h2, fun _ => b⟩
      · have e : firstF p (n + 1) = n + 1 := by show (if _ then _ else _) = _; rw [if_neg a, if_neg (fun x => b x.1)]
        rw [e]
        refine ⟨Nat.le_refl _, fun t ht => ?_, fun h => absurd h (Nat.lt_irrefl _)⟩
        by_cases c : t = n
        · subst c; simpa using b
        · exact h2 t (by omega)
theorem first_eq (p : Nat → Bool) (n k : Nat) (h1 : k ≤ n) (h2 : ∀ t, t < k → p t = false) (h3 : k < n → p k = true) : firstF p n = k := by
  obtain ⟨g1, g2, g3⟩ := first_spec p n
  rcases Nat.lt_trichotomy (firstF p n) k with h | h | h
  · have := g3 (by omega); rw [h2 _ h] at this; simp at this
  · exact h
  · have := g2 k h; rw [h3 (by omega)] at this; simp at this
def over (u N s n : Int) (k : Nat) : Bool := decide (n < rawT u N s ((k : Int) + 1))
def findK (u N s n : Int) : Nat := firstF (over u N s n) 1001
def findF (u N s n : Int) : Int × Int :=
  if tchk u N ≠ 0 then (0, tchk u N) else if s < 1 ∨ 3652059 < s ∨ n < 1 ∨ 3652059 < n then (0, 3) else if n < s then (0, 4) else if findK u N s n = 1001 then (0, 2) else (findK u N s n, 0)
theorem find_cases (u N s n : Int) : (∃ c : Int, findF u N s n = (0, c) ∧ c ≠ 0) ∨ (∃ k : Nat, (1 ≤ u ∧ u ≤ 4 ∧ 1 ≤ N ∧ N ≤ 120) ∧ (1 ≤ s ∧ s ≤ n ∧ n ≤ 3652059) ∧ k ≤ 1000 ∧ findF u N s n = ((k : Int), 0) ∧ rawT u N s k ≤ n ∧ n < rawT u N s ((k : Int) + 1)) := by
  unfold findF
  by_cases h1 : tchk u N = 0
  · rw [if_neg (fun x => x h1)]
    by_cases h2 : s < 1 ∨ 3652059 < s ∨ n < 1 ∨ 3652059 < n
    · rw [if_pos h2]; exact .inl ⟨3, rfl, by decide⟩
    · rw [if_neg h2]
      by_cases h3 : n < s
      · rw [if_pos h3]; exact .inl ⟨4, rfl, by decide⟩
      · rw [if_neg h3]
        by_cases h4 : findK u N s n = 1001
        · rw [if_pos h4]; exact .inl ⟨2, rfl, by decide⟩
        · rw [if_neg h4]
          obtain ⟨g1, g2, g3⟩ := first_spec (over u N s n) 1001
          refine .inr ⟨findK u N s n, tchk_ok h1, by omega, by unfold findK at h4 ⊢; omega, rfl, ?_, ?_⟩
          · unfold findK
            cases hk : firstF (over u N s n) 1001 with
            | zero => rw [Int.natCast_zero, rawT_zero (by omega) (by omega)]; omega
            | succ k =>
              have := g2 k (by omega)
              unfold over at this
              have := of_decide_eq_false this
              rw [show ((k + 1 : Nat) : Int) = (k : Int) + 1 by omega]
              omega
          · have := g3 (by unfold findK at h4; omega)
            unfold over at this
            exact of_decide_eq_true this
  · rw [if_pos h1]; exact .inl ⟨_, rfl, h1⟩
theorem over_mono {u N s n : Int} (hN : 1 ≤ N) (h1 : 1 ≤ s) (h2 : s ≤ 3652059) : ∀ a b : Nat, a ≤ b → over u N s n a = true → over u N s n b = true := by
  intro a b hab h
  unfold over at *
  have := of_decide_eq_true h
  have m := rawT_mono (u := u) (Int.le_refl s) h1 h2 hN (by omega : (0 : Int) ≤ (a : Int) + 1) (by omega : (a : Int) + 1 ≤ (b : Int) + 1)
  exact decide_eq_true (by omega)
end Dt
end Go.Proofs.YtdfdjampodkpgaaDoor
end

/-! TermWalks -/
section
/- Terms: months behind a day, a term's beginning. -/
set_option linter.unusedSimpArgs false
set_option linter.unusedVariables false
namespace Go.Proofs.YtdfdjampodkpgaaDoor
open Go.RowKit
namespace Dt
def aT (u N : Int) : Value := .agg #[.int .i64 u, .int .i64 N]
def IntQ (r : Int) (w : World) (e : Ending) (w' : World) : Prop := e = .returned (.int .i64 r) ∧ Below w.heap.size w w'
def PairQ (r : Int × Int) (w : World) (e : Ending) (w' : World) : Prop := e = .returned (.tuple #[.int .i64 r.1, .int .i64 r.2]) ∧ Below w.heap.size w w'
end Dt
end Go.Proofs.YtdfdjampodkpgaaDoor
end

/-! TermWalks2 -/
section
/- Terms: the beginning of a term, the n-th one, the one of a day. -/
set_option linter.unusedSimpArgs false
set_option linter.unusedVariables false
namespace Go.Proofs.YtdfdjampodkpgaaDoor
open Go.RowKit
namespace Dt
end Dt
end Go.Proofs.YtdfdjampodkpgaaDoor
end

/-! TermRef -/
section
/- The document's functions on terms. -/
set_option linter.unusedSimpArgs false
set_option linter.unusedVariables false
namespace Go.Proofs.YtdfdjampodkpgaaDoor
open Go.RowKit
namespace Dt
theorem noDay_any (n : Int) (w : World) : Calls Tryd.prog 62 #[.int .i64 n] w fun e w' => e = .returned (.bool (!isD n)) ∧ w = w' := by
  rcases (show n < 1 ∨ (1 ≤ n ∧ 3652059 < n) ∨ (1 ≤ n ∧ n ≤ 3652059) by omega) with h | ⟨h1, h⟩ | ⟨h1, h⟩
  · have H := Lib.hid (isD_no (.inl h))
    go_enter Tryd.func62, Tryd.ntmps62
    go_wp2
    go_ret
    exact ⟨by rw [H.out]; rfl, rfl⟩
  · have H := Lib.hid (isD_no (.inr h))
    go_enter Tryd.func62, Tryd.ntmps62
    go_wp2
    go_ret
    exact ⟨by rw [H.out]; first | rfl | (simp; done) | (simp; omega), rfl⟩
  · have H := Lib.hid (isD_yes h1 h)
    go_enter Tryd.func62, Tryd.ntmps62
    go_wp2
    go_ret
    exact ⟨by rw [H.out]; first | rfl | (simp; done) | (simp; omega), rfl⟩
/-- the day, or 0 -/
def dayR (u N s k : Int) : Int := if 3652059 < rawT u N s k then 0 else rawT u N s k
/-- months by months, as the document takes them -/
theorem dayR_lin (u N s k X : Int) (hX : N * k = X) (u12 : u = 1 ∨ u = 2) : dayR u N s k = if 3652059 < (if u = 2 then s + 7 * X else s + X) then 0 else (if u = 2 then s + 7 * X else s + X) := by
  unfold dayR rawT
  rw [hX]
  rcases u12 with rfl | rfl <;> simp
theorem dayR_mon (u N s k : Int) (Z : Int) (hZ : rawT u N s k = monthsF s Z) (s1 : 1 ≤ s) (s2 : s ≤ 3652059) (z0 : 0 ≤ Z) (y m : Int) (hm : 1 ≤ m ∧ m ≤ 12) (ht : 12 * y + (m - 1) = mo s + Z) :
    (9999 < y ∧ dayR u N s k = 0) ∨ (y ≤ 9999 ∧ dayR u N s k = raw y m (min (dm s) (len y m))) := by
  obtain ⟨a1, a2, a3, a4, a5⟩ := mo_spec s1 s2
  have e1 : (mo s + Z) / 12 = y := by omega
  have e2 : (mo s + Z) % 12 + 1 = m := by omega
  rcases months_cases s1 s2 z0 with ⟨h1, h2⟩ | ⟨h1, h2⟩
  · refine .inr ⟨by omega, ?_⟩
    unfold dayR; rw [hZ, if_neg (by omega)]
    unfold monthsF dayAt S L raw
    rw [if_neg (by omega), e1, e2]
  · refine .inl ⟨by omega, ?_⟩
    unfold dayR; rw [hZ, h2]; rfl
end Dt
end Go.Proofs.YtdfdjampodkpgaaDoor
end
