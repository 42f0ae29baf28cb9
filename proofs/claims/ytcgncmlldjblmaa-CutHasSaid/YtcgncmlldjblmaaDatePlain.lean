/- Dates and numbers of days, weeks: plain facts on whole numbers, no program in sight. -/
import Derived.Test.YtcgncmlldjblmaaBase
set_option linter.unusedSimpArgs false
set_option linter.unusedVariables false
namespace Go.Proofs.Ytcgncmlldjblmaa
namespace Dt

def leapB (y : Int) : Bool := (y % 4 == 0) && ((y % 100 != 0) || (y % 400 == 0))
def lp (y : Int) : Int := if leapB y then 1 else 0
/-- days ahead of a year -/
def dby (y : Int) : Int := 365 * (y - 1) + (y - 1) / 4 - (y - 1) / 100 + (y - 1) / 400
/-- days ahead of a month in a year -/
def cum (y m : Int) : Int :=
  if m ≤ 1 then 0 else if m = 2 then 31 else lp y + (if m = 3 then 59 else if m = 4 then 90 else if m = 5 then 120 else if m = 6 then 151 else if m = 7 then 181 else if m = 8 then 212 else
    if m = 9 then 243 else if m = 10 then 273 else if m = 11 then 304 else if m = 12 then 334 else 365)
/-- a month's length -/
def len (y m : Int) : Int := cum y (m + 1) - cum y m
def len0 (y m : Int) : Int := if 1 ≤ y ∧ y ≤ 9999 ∧ 1 ≤ m ∧ m ≤ 12 then len y m else 0
def raw (y m d : Int) : Int := dby y + cum y m + d
structure Valid (y m d : Int) : Prop where
  y1 : 1 ≤ y
  y2 : y ≤ 9999
  m1 : 1 ≤ m
  m2 : m ≤ 12
  d1 : 1 ≤ d
  d2 : d ≤ len y m
def lastDay : Int := 3652059

theorem lp_01 (y : Int) : lp y = 0 ∨ lp y = 1 := by unfold lp; split <;> simp
theorem leap_iff (y : Int) : leapB y = true ↔ y % 4 = 0 ∧ (y % 100 ≠ 0 ∨ y % 400 = 0) := by simp [leapB]
theorem dby_succ (y : Int) : dby (y + 1) = dby y + 365 + lp y := by
  unfold dby lp
  by_cases h : leapB y = true
  · rw [if_pos h]; rw [leap_iff] at h; omega
  · rw [if_neg h]; rw [leap_iff] at h; omega
theorem dby_mono {a b : Int} (h : a ≤ b) : dby a ≤ dby b := by unfold dby; omega
theorem dby_lt {a b : Int} (h : a < b) : dby a + 365 ≤ dby b := by
  have h1 := dby_succ a
  have h2 := lp_01 a
  have h3 : dby (a + 1) ≤ dby b := dby_mono (by omega)
  omega
theorem month_cases {m : Int} (h1 : 1 ≤ m) (h2 : m ≤ 12) : m = 1 ∨ m = 2 ∨ m = 3 ∨ m = 4 ∨ m = 5 ∨ m = 6 ∨ m = 7 ∨ m = 8 ∨ m = 9 ∨ m = 10 ∨ m = 11 ∨ m = 12 := by omega
theorem cum_succ (y m : Int) : cum y (m + 1) = cum y m + len y m := by unfold len; omega
theorem cum_1 (y : Int) : cum y 1 = 0 := by simp [cum]
theorem cum_13 (y : Int) : cum y 13 = 365 + lp y := by simp [cum]; omega
theorem len_bd (y m : Int) (h1 : 1 ≤ m) (h2 : m ≤ 12) : 28 ≤ len y m ∧ len y m ≤ 31 := by
  have := lp_01 y
  rcases month_cases h1 h2 with rfl | rfl | rfl | rfl | rfl | rfl | rfl | rfl | rfl | rfl | rfl | rfl <;> simp [len, cum] <;> omega
theorem cum_mono (y m k : Int) (h1 : 1 ≤ m) (h : m ≤ k) (h2 : k ≤ 13) : cum y m ≤ cum y k := by
  have := lp_01 y
  rcases (show k = 13 ∨ k ≤ 12 by omega) with rfl | h3
  · rcases (show m = 13 ∨ m ≤ 12 by omega) with rfl | h4
    · exact Int.le_refl _
    · rcases month_cases h1 h4 with rfl | rfl | rfl | rfl | rfl | rfl | rfl | rfl | rfl | rfl | rfl | rfl <;> simp [cum] <;> omega
  · rcases month_cases h1 (by omega) with rfl | rfl | rfl | rfl | rfl | rfl | rfl | rfl | rfl | rfl | rfl | rfl <;>
      rcases month_cases (show 1 ≤ k by omega) h3 with rfl | rfl | rfl | rfl | rfl | rfl | rfl | rfl | rfl | rfl | rfl | rfl <;> first | omega | (simp [cum]; omega) | simp [cum]
theorem len_vals (y : Int) : len y 1 = 31 ∧ len y 2 = 28 + lp y ∧ len y 3 = 31 ∧ len y 4 = 30 ∧ len y 5 = 31 ∧ len y 6 = 30 ∧ len y 7 = 31 ∧ len y 8 = 31 ∧ len y 9 = 30 ∧ len y 10 = 31 ∧ len y 11 = 30 ∧ len y 12 = 31 := by
  simp [len, cum]; omega
theorem cum_le (y m d : Int) (h1 : 1 ≤ m) (h2 : m ≤ 12) (h3 : 1 ≤ d) (h4 : d ≤ len y m) : 1 ≤ cum y m + d ∧ cum y m + d ≤ 365 + lp y := by
  have a := cum_mono y 1 m (by omega) h1 (by omega)
  have b := cum_mono y (m + 1) 13 (by omega) (by omega) (by omega)
  rw [cum_1] at a
  rw [cum_succ, cum_13] at b
  omega
theorem raw_year {y m d : Int} (h : Valid y m d) : dby y < raw y m d ∧ raw y m d ≤ dby (y + 1) := by
  have := cum_le y m d h.m1 h.m2 h.d1 h.d2
  have := dby_succ y
  unfold raw; omega
theorem raw_bd {y m d : Int} (h : Valid y m d) : 1 ≤ raw y m d ∧ raw y m d ≤ 3652059 := by
  have a := raw_year h
  have b : dby 1 ≤ dby y := dby_mono h.y1
  have c : dby (y + 1) ≤ dby 10000 := dby_mono (by have := h.y2; omega)
  have d1 : dby 1 = 0 := by decide
  have d2 : dby 10000 = 3652059 := by decide
  omega
/-- a number tells its date -/
theorem raw_inj {y m d y' m' d' : Int} (h : Valid y m d) (h' : Valid y' m' d') (e : raw y m d = raw y' m' d') : y = y' ∧ m = m' ∧ d = d' := by
  have a := raw_year h
  have b := raw_year h'
  have hy : y = y' := by
    rcases Int.lt_trichotomy y y' with hl | rfl | hl
    · have := dby_mono (show y + 1 ≤ y' by omega); omega
    · rfl
    · have := dby_mono (show y' + 1 ≤ y by omega); omega
  subst hy
  have hm : m = m' := by
    rcases Int.lt_trichotomy m m' with hl | rfl | hl
    · have := cum_mono y (m + 1) m' (by have := h.m1; omega) (by omega) (by have := h'.m2; omega)
      rw [cum_succ] at this
      have := h.d2; have := h'.d1; unfold raw at e; omega
    · rfl
    · have := cum_mono y (m' + 1) m (by have := h'.m1; omega) (by omega) (by have := h.m2; omega)
      rw [cum_succ] at this
      have := h'.d2; have := h.d1; unfold raw at e; omega
  subst hm
  unfold raw at e
  exact ⟨rfl, rfl, by omega⟩

/-! ### the date of a number, reckoned by eras of 400 years that begin with a March -/
def yoe (r : Int) : Int := (r - r / 1460 + r / 36524 - r / 146096) / 365
def doy (r : Int) : Int := r - (365 * yoe r + yoe r / 4 - yoe r / 100)
def mp (r : Int) : Int := (5 * doy r + 2) / 153
def dom (r : Int) : Int := doy r - (153 * mp r + 2) / 5 + 1
def dateOf (n : Int) : Int × Int × Int :=
  let e := (n + 305) / 146097
  let r := (n + 305) % 146097
  if mp r + 3 > 12 then (e * 400 + yoe r + 1, mp r - 9, dom r) else (e * 400 + yoe r, mp r + 3, dom r)

def gg (r : Int) : Int := r - r / 1460 + r / 36524 - r / 146096
def sy (y : Int) : Int := 365 * y + y / 4 - y / 100 + y / 400
theorem gg_mono (r q : Int) (h : r ≤ q) : gg r ≤ gg q := by unfold gg; omega
theorem gg_year : ∀ y : Fin 400, 365 * (y.val : Int) ≤ gg (sy y.val) ∧ gg (sy (y.val + 1) - 1) ≤ 365 * (y.val : Int) + 364 := by decide +kernel
theorem sy_find (r : Int) (h0 : 0 ≤ r) : ∀ n : Nat, r < sy n → ∃ y : Nat, y < n ∧ sy y ≤ r ∧ r < sy (y + 1)
  | 0, h => by simp [sy] at h; omega
  | n + 1, h => by
    by_cases hn : r < sy n
    · obtain ⟨y, h1, h2, h3⟩ := sy_find r h0 n hn
      exact ⟨y, by omega, h2, h3⟩
    · exact ⟨n, by omega, by omega, by simpa using h⟩
theorem yoe_spec (r : Int) (h0 : 0 ≤ r) (h1 : r < 146097) : 0 ≤ yoe r ∧ yoe r ≤ 399 ∧ sy (yoe r) ≤ r ∧ r < sy (yoe r + 1) := by
  obtain ⟨y, h2, h3, h4⟩ := sy_find r h0 400 (by have : sy ((400 : Nat) : Int) = 146097 := by decide
                                                 omega)
  obtain ⟨a, b⟩ := gg_year ⟨y, h2⟩
  simp only at a b
  have c := gg_mono (sy y) r h3
  have d := gg_mono r (sy (y + 1) - 1) (by omega)
  have e : yoe r = y := by
    show gg r / 365 = y
    omega
  rw [e]
  exact ⟨by omega, by omega, h3, h4⟩
/-- day of the year that begins with a March, and its month and day -/
theorem day_table : ∀ i : Fin 366, let d : Int := i.val; let m := (5 * d + 2) / 153; let k := d - (153 * m + 2) / 5 + 1;
    0 ≤ m ∧ m ≤ 11 ∧ 1 ≤ k ∧
    (m ≤ 9 → k ≤ cum 1 (m + 4) - cum 1 (m + 3) ∧ cum 1 (m + 3) + k = d + 60) ∧
    (m = 10 → k ≤ 31 ∧ k = d - 305) ∧ (m = 11 → k ≤ 29 ∧ k = d - 336 ∧ (d ≤ 364 → k ≤ 28)) := by decide +kernel
theorem cum_late (y m : Int) (h : 3 ≤ m) : cum y m = cum 1 m + lp y := by
  have : lp 1 = 0 := by decide
  have h1 : ¬ m ≤ 1 := by omega
  have h2 : ¬ m = 2 := by omega
  simp only [cum, if_neg h1, if_neg h2]
  omega
theorem lp_sy (y : Int) : lp y = sy y - sy (y - 1) - 365 := by
  have h := dby_succ y
  unfold dby at h; unfold sy
  rw [show y + 1 - 1 = y by omega] at h
  omega
theorem dby_sy (y : Int) : dby y = sy (y - 1) := by unfold dby sy; omega
theorem lp_era (y e : Int) : lp (e * 400 + y) = lp y := by
  rw [lp_sy, lp_sy]; unfold sy; omega
theorem sy_era (y e : Int) : sy (e * 400 + y) = e * 146097 + sy y := by unfold sy; omega

theorem dateOf_spec (n : Int) (h1 : 1 ≤ n) (h2 : n ≤ 3652059) :
    Valid (dateOf n).1 (dateOf n).2.1 (dateOf n).2.2 ∧ raw (dateOf n).1 (dateOf n).2.1 (dateOf n).2.2 = n := by
  have hr0 : 0 ≤ (n + 305) % 146097 := by omega
  have hr1 : (n + 305) % 146097 < 146097 := by omega
  have hn : n = (n + 305) / 146097 * 146097 + (n + 305) % 146097 - 305 := by omega
  have he0 : 0 ≤ (n + 305) / 146097 := by omega
  have he1 : (n + 305) / 146097 ≤ 24 := by omega
  have he2 : (n + 305) / 146097 = 24 → (n + 305) % 146097 ≤ 146036 := by omega
  unfold dateOf
  simp only
  generalize (n + 305) / 146097 = e at *
  generalize (n + 305) % 146097 = r at *
  obtain ⟨y0, y1, y2, y3⟩ := yoe_spec r hr0 hr1
  have hd : doy r = r - (sy (yoe r)) := by
    have : yoe r / 400 = 0 := by omega
    unfold doy sy; omega
  have hlp := lp_sy (yoe r + 1)
  rw [show yoe r + 1 - 1 = yoe r by omega] at hlp
  have hl01 := lp_01 (yoe r + 1)
  have hd0 : 0 ≤ doy r := by omega
  have hd1 : doy r ≤ 364 + lp (yoe r + 1) := by omega
  have ht := day_table ⟨(doy r).toNat, by omega⟩
  simp only [Int.toNat_of_nonneg hd0] at ht
  have hmp : (5 * doy r + 2) / 153 = mp r := rfl
  have hdom : doy r - (153 * mp r + 2) / 5 + 1 = dom r := rfl
  rw [hmp, hdom] at ht
  obtain ⟨m0, m1, k1, t1, t2, t3⟩ := ht
  have hlv := len_vals
  by_cases hm : mp r + 3 > 12
  · rw [if_pos hm]
    simp only
    have hera : lp (e * 400 + yoe r + 1) = lp (yoe r + 1) := by rw [show e * 400 + yoe r + 1 = e * 400 + (yoe r + 1) by omega, lp_era]
    have hdby : dby (e * 400 + yoe r + 1) = e * 146097 + sy (yoe r) := by rw [dby_sy, show e * 400 + yoe r + 1 - 1 = e * 400 + yoe r by omega, sy_era]
    rcases (show mp r = 10 ∨ mp r = 11 by omega) with hm' | hm'
    · obtain ⟨a, b⟩ := t2 hm'
      rw [hm'] at hm ⊢
      have l1 := (hlv (e * 400 + yoe r + 1)).1
      refine ⟨⟨by omega, ?_, by decide, by decide, k1, by show dom r ≤ len _ 1; omega⟩, ?_⟩
      · have : e = 24 → yoe r ≤ 398 := by
          intro he; have := he2 he
          by_cases h : yoe r = 399
          · rw [h] at y2 hd; have : sy 399 = 145731 := by decide
            omega
          · omega
        omega
      · show dby _ + cum _ 1 + dom r = n
        rw [cum_1, hdby]; omega
    · obtain ⟨a, b, c⟩ := t3 hm'
      rw [hm'] at hm ⊢
      have l1 := (hlv (e * 400 + yoe r + 1)).2.1
      refine ⟨⟨by omega, ?_, by decide, by decide, k1, by show dom r ≤ len _ 2; omega⟩, ?_⟩
      · have : e = 24 → yoe r ≤ 398 := by
          intro he; have := he2 he
          by_cases h : yoe r = 399
          · rw [h] at y2 hd; have : sy 399 = 145731 := by decide
            omega
          · omega
        omega
      · show dby _ + cum _ 2 + dom r = n
        rw [show cum (e * 400 + yoe r + 1) 2 = 31 by simp [cum], hdby]; omega
  · rw [if_neg hm]
    simp only
    obtain ⟨a, b⟩ := t1 (by omega)
    have hera : lp (e * 400 + yoe r) = lp (yoe r) := lp_era _ _
    have hdby : dby (e * 400 + yoe r) = e * 146097 + sy (yoe r - 1) := by rw [dby_sy, show e * 400 + yoe r - 1 = e * 400 + (yoe r - 1) by omega, sy_era]
    have hlp2 := lp_sy (yoe r)
    have c1 := cum_late (e * 400 + yoe r) (mp r + 3) (by omega)
    have c2 := cum_late (e * 400 + yoe r) (mp r + 3 + 1) (by omega)
    have hlen : len (e * 400 + yoe r) (mp r + 3) = cum 1 (mp r + 4) - cum 1 (mp r + 3) := by
      unfold len; rw [c1, c2, show mp r + 3 + 1 = mp r + 4 by omega]; omega
    refine ⟨⟨?_, ?_, by omega, by omega, k1, by rw [hlen]; omega⟩, ?_⟩
    · by_cases he : e = 0
      · subst he
        by_cases h : yoe r = 0
        · rw [h] at hd; have : sy 0 = 0 := by decide
          omega
        · omega
      · omega
    · by_cases he : e = 24
      · have := he2 he; omega
      · omega
    · unfold raw; rw [c1, hdby, hera]; omega
theorem dateOf_raw {y m d : Int} (h : Valid y m d) : dateOf (raw y m d) = (y, m, d) := by
  have hb := raw_bd h
  obtain ⟨v, e⟩ := dateOf_spec (raw y m d) hb.1 hb.2
  obtain ⟨a, b, c⟩ := raw_inj v h e
  exact Prod.ext a (Prod.ext b c)
end Dt
end Go.Proofs.Ytcgncmlldjblmaa
