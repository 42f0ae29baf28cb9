/- Amounts and their parts: plain facts on whole numbers. -/
import Derived.Test.YtcppeligeodomaaBase
namespace Go.Proofs.Ytcppeligeodomaa
namespace Pn

def isA (p : Int) : Prop := -1099511627776 ≤ p ∧ p ≤ 1099511627776
instance (p : Int) : Decidable (isA p) := by unfold isA; exact inferInstance
def told (p : Int) : Int × Int := if isA p then (p, 0) else (0, 8)
/-- is a quotient one more? -/
def upB (way q r d : Int) : Bool := if way = 2 then decide (0 < r) else if way = 3 then decide (d ≤ 2 * r) else if way = 4 then decide (d < 2 * r) || (decide (2 * r = d) && decide (q % 2 = 1)) else false
def mag (a num den way : Int) : Int := a * num / den + if upB way (a * num / den) (a * num % den) den then 1 else 0
def val (p num den way : Int) : Int := if p < 0 then -(mag (-p) num den way) else mag p num den way
def okN (num den : Int) : Prop := 0 ≤ num ∧ num ≤ 100000 ∧ 1 ≤ den ∧ den ≤ 100000
instance (a b : Int) : Decidable (okN a b) := by unfold okN; exact inferInstance
def okW (way : Int) : Prop := 1 ≤ way ∧ way ≤ 4
instance (a : Int) : Decidable (okW a) := by unfold okW; exact inferInstance
def part (p num den way : Int) : Int × Int :=
  if ¬ isA p then (0, 3) else if ¬ okW way then (0, 7) else if ¬ okN num den then (0, 3) else told (val p num den way)

theorem part_ok {p num den way : Int} (h : (part p num den way).2 = 0) : isA p ∧ okW way ∧ okN num den ∧ (part p num den way).1 = val p num den way ∧ isA (val p num den way) := by
  unfold part at h ⊢
  by_cases h1 : isA p
  · rw [if_neg (fun x => x h1)] at h ⊢
    by_cases h2 : okW way
    · rw [if_neg (fun x => x h2)] at h ⊢
      by_cases h3 : okN num den
      · rw [if_neg (fun x => x h3)] at h ⊢
        unfold told at h ⊢
        by_cases h4 : isA (val p num den way)
        · rw [if_pos h4] at h ⊢; exact ⟨h1, h2, h3, rfl, h4⟩
        · rw [if_neg h4] at h; simp at h
      · rw [if_pos h3] at h; simp at h
    · rw [if_pos h2] at h; simp at h
  · rw [if_pos h1] at h; simp at h
theorem part_eq {p num den way : Int} (h1 : isA p) (h2 : okW way) (h3 : okN num den) : part p num den way = told (val p num den way) := by
  unfold part; rw [if_neg (fun x => x h1), if_neg (fun x => x h2), if_neg (fun x => x h3)]
theorem part_zero {p num den way : Int} (h : (part p num den way).2 ≠ 0) : (part p num den way).1 = 0 := by
  unfold part told at *
  repeat' split
  all_goals first | rfl | (exfalso; apply h; repeat' split) <;> simp_all
theorem part_errs (p num den way : Int) : (part p num den way).2 = 0 ∨ (part p num den way).2 = 3 ∨ (part p num den way).2 = 7 ∨ (part p num den way).2 = 8 := by
  unfold part told
  repeat' split
  all_goals simp

/-- what a division tells -/
theorem div_spec (a d : Int) (h : 1 ≤ d) : a = d * (a / d) + a % d ∧ 0 ≤ a % d ∧ a % d < d :=
  ⟨(Int.mul_ediv_add_emod a d).symm, Int.emod_nonneg _ (by omega), Int.emod_lt_of_pos _ (by omega)⟩
theorem mag_spec (a num den way : Int) (h : 1 ≤ den) : ∃ q r, a * num = den * q + r ∧ 0 ≤ r ∧ r < den ∧ a * num / den = q ∧ a * num % den = r ∧ mag a num den way = q + (if upB way q r den then 1 else 0) :=
  ⟨_, _, (div_spec (a * num) den h).1, (div_spec (a * num) den h).2.1, (div_spec (a * num) den h).2.2, rfl, rfl, rfl⟩
theorem q_nonneg {x d q r : Int} (hx : 0 ≤ x) (hd : 1 ≤ d) (e : x = d * q + r) (hr : r < d) : 0 ≤ q := by
  by_cases h : q < 0
  · have : d * q ≤ d * (-1) := Int.mul_le_mul_of_nonneg_left (by omega) (by omega)
    omega
  · omega
theorem mag_nonneg (a num den way : Int) (ha : 0 ≤ a) (hn : 0 ≤ num) (h : 1 ≤ den) : 0 ≤ mag a num den way := by
  obtain ⟨q, r, e, h0, h1, _, _, hm⟩ := mag_spec a num den way h
  have := q_nonneg (Int.mul_nonneg ha hn) h e h1
  rw [hm]; split <;> omega
theorem upB_mono (way q r r' d : Int) (h : r ≤ r') (hu : upB way q r d = true) : upB way q r' d = true := by
  unfold upB at *
  split at hu
  · rename_i e; rw [if_pos e]; simp at *; omega
  · rename_i e; rw [if_neg e]
    split at hu
    · rename_i e'; rw [if_pos e']; simp at *; omega
    · rename_i e'; rw [if_neg e']
      split at hu
      · rename_i e''; rw [if_pos e'']; simp at *; omega
      · simp at hu
theorem mag_mono (a b num den way : Int) (hab : a ≤ b) (hn : 0 ≤ num) (h : 1 ≤ den) : mag a num den way ≤ mag b num den way := by
  obtain ⟨q, r, e, h0, h1, _, _, hm⟩ := mag_spec a num den way h
  obtain ⟨q', r', e', h0', h1', _, _, hm'⟩ := mag_spec b num den way h
  have hle : a * num ≤ b * num := Int.mul_le_mul_of_nonneg_right hab hn
  have hq : q ≤ q' := by
    by_cases hl : q' < q
    · have : den * (q' + 1) ≤ den * q := Int.mul_le_mul_of_nonneg_left (by omega) (by omega)
      rw [Int.mul_add] at this; omega
    · omega
  rw [hm, hm']
  rcases (show q = q' ∨ q + 1 ≤ q' by omega) with rfl | hl
  · by_cases hu : upB way q r den = true
    · rw [if_pos hu, if_pos (upB_mono way q r r' den (by omega) hu)]; omega
    · rw [if_neg hu]; split <;> omega
  · split <;> split <;> omega
theorem upB_zero (way q d : Int) (h : 1 ≤ d) : upB way q 0 d = false := by
  unfold upB
  have h1 : ¬ d ≤ 2 * 0 := by omega
  have h2 : ¬ d < 2 * 0 := by omega
  have h3 : ¬ 2 * 0 = d := by omega
  rw [decide_eq_false h1, decide_eq_false h2, decide_eq_false h3]
  simp
theorem val_neg (p num den way : Int) (hd : 1 ≤ den) : val (-p) num den way = - val p num den way := by
  unfold val
  by_cases h : p < 0
  · rw [if_neg (by omega), if_pos h]; omega
  · by_cases h0 : p = 0
    · subst h0; simp [mag, upB_zero _ _ _ hd]
    · rw [if_pos (by omega), if_neg h]; simp
theorem val_mono (a b num den way : Int) (hab : a ≤ b) (hn : 0 ≤ num) (h : 1 ≤ den) : val a num den way ≤ val b num den way := by
  unfold val
  by_cases h1 : a < 0
  · rw [if_pos h1]
    have := mag_nonneg (-a) num den way (by omega) hn h
    by_cases h2 : b < 0
    · rw [if_pos h2]
      have := mag_mono (-b) (-a) num den way (by omega) hn h; omega
    · rw [if_neg h2]
      have := mag_nonneg b num den way (by omega) hn h; omega
  · rw [if_neg h1, if_neg (by omega)]
    exact mag_mono a b num den way hab hn h

/-- what is rounded is less than one penny off -/
theorem near_law (p num den way : Int) (hw : okW way) (hn : okN num den) :
    let n := val p num den way
    let off := n * den - p * num
    (-den < off ∧ off < den) ∧ (3 ≤ way → -den ≤ 2 * off ∧ 2 * off ≤ den) ∧
    (way = 1 → (0 ≤ p → off ≤ 0) ∧ (p < 0 → 0 ≤ off)) ∧ (way = 2 → (0 ≤ p → 0 ≤ off) ∧ (p < 0 → off ≤ 0)) := by
  obtain ⟨hn0, hn1, hd0, hd1⟩ := hn
  obtain ⟨hw0, hw1⟩ := hw
  have core : ∀ a : Int, 0 ≤ a → ∃ t, mag a num den way * den - a * num = t ∧ (-den < t ∧ t < den) ∧ (3 ≤ way → -den ≤ 2 * t ∧ 2 * t ≤ den) ∧ (way = 1 → t ≤ 0) ∧ (way = 2 → 0 ≤ t) := by
    intro a _
    obtain ⟨q, r, e, h0, h1, _, _, hm⟩ := mag_spec a num den way hd0
    rw [hm, e, Int.mul_comm den q, Int.add_mul]
    unfold upB
    refine ⟨_, rfl, ?_⟩
    rcases (show way = 1 ∨ way = 2 ∨ way = 3 ∨ way = 4 by omega) with rfl | rfl | rfl | rfl
    · simp; omega
    · simp only [if_true]
      by_cases hr : 0 < r
      · rw [if_pos (by simpa using hr)]; simp; omega
      · rw [if_neg (by simpa using hr)]; simp; omega
    · simp only [show ¬ (3 : Int) = 2 by decide, if_false, if_true]
      by_cases hr : den ≤ 2 * r
      · rw [if_pos (by simpa using hr)]; simp; omega
      · rw [if_neg (by simpa using hr)]; simp; omega
    · simp only [show ¬ (4 : Int) = 2 by decide, show ¬ (4 : Int) = 3 by decide, if_false, if_true]
      by_cases hr : den < 2 * r ∨ (2 * r = den ∧ q % 2 = 1)
      · rw [if_pos (by simpa using hr)]; simp; omega
      · rw [if_neg (by simpa using hr)]; simp; omega
  intro n off
  by_cases hp : p < 0
  · obtain ⟨t, e, a, b, c, d⟩ := core (-p) (by omega)
    have ho : off = -t := by
      show val p num den way * den - p * num = -t
      unfold val; rw [if_pos hp, ← e, Int.neg_mul, Int.neg_mul]; omega
    rw [ho]; omega
  · obtain ⟨t, e, a, b, c, d⟩ := core p (by omega)
    have ho : off = t := by
      show val p num den way * den - p * num = t
      unfold val; rw [if_neg hp, e]
    rw [ho]; omega
/-- what comes out even is the same by all ways -/
theorem mag_even (a den num way : Int) (hd : 1 ≤ den) : mag (a * den) num den way = a * num := by
  have e : a * den * num = den * (a * num) := by rw [Int.mul_assoc, Int.mul_comm den num, ← Int.mul_assoc, Int.mul_comm]
  unfold mag
  rw [e, Int.mul_ediv_cancel_left _ (by omega), Int.mul_emod_right, upB_zero _ _ _ hd]
  simp
theorem val_even (p den num way : Int) (hd : 1 ≤ den) : val (p * den) num den way = p * num := by
  unfold val
  by_cases hp : p * den < 0
  · rw [if_pos hp, ← Int.neg_mul, mag_even _ _ _ _ hd, Int.neg_mul]; omega
  · rw [if_neg hp, mag_even _ _ _ _ hd]
theorem val_all (p den way : Int) (hd : 1 ≤ den) : val p den den way = p := by
  unfold val
  have m : ∀ a : Int, mag a den den way = a := fun a => by
    unfold mag
    rw [Int.mul_ediv_cancel _ (by omega), Int.mul_emod_left, upB_zero _ _ _ hd]
    simp
  split
  · rw [m]; omega
  · exact m p
/-- of each penny more by whole parts it is just that part more -/
theorem val_more (p k num den : Int) (hp : 0 ≤ p) (hk : 0 ≤ k) (hd : 1 ≤ den) : val (p + k * den) num den 1 = val p num den 1 + k * num := by
  have h1 : 0 ≤ k * den := Int.mul_nonneg hk (by omega)
  unfold val
  rw [if_neg (by omega), if_neg (by omega)]
  unfold mag
  have e : (p + k * den) * num = p * num + den * (k * num) := by
    rw [Int.add_mul, Int.mul_assoc k, Int.mul_comm den num, ← Int.mul_assoc k, Int.mul_comm (k * num) den]
  rw [e, Int.add_mul_ediv_left _ _ (by omega)]
  simp [upB]

/-! ### the document's way: by the whole numbers below and above -/
def rLow (p num den : Int) : Int := p * num / den
def rHigh (p num den : Int) : Int := if rLow p num den * den = p * num then rLow p num den else rLow p num den + 1
def rVal (p num den way : Int) : Int :=
  let low := rLow p num den
  let high := rHigh p num den
  let all := p * num
  let away := if p < 0 then low else high
  let toZero := if p < 0 then high else low
  let below := all - low * den
  let above := high * den - all
  if way = 1 then toZero else if way = 2 then away else if above < below then high else if below < above then low else if way = 3 then away else if low % 2 = 0 then low else high
theorem rVal_eq (p num den way : Int) (hw : okW way) (hn : okN num den) : rVal p num den way = val p num den way := by
  obtain ⟨hn0, hn1, hd0, hd1⟩ := hn
  obtain ⟨hw0, hw1⟩ := hw
  have hdp : den ≠ 0 := by omega
  by_cases hp : p < 0
  · obtain ⟨q, r, e, h0, h1, e1, e2, hm⟩ := mag_spec (-p) num den way hd0
    have ea : p * num = -(den * q + r) := by rw [← e, Int.neg_mul]; omega
    have hv : val p num den way = -(q + (if upB way q r den then 1 else 0)) := by unfold val; rw [if_pos hp, hm]
    by_cases hr : r = 0
    · have hl : rLow p num den = -q := by
        unfold rLow; rw [ea, hr, Int.add_zero, ← Int.mul_neg, Int.mul_ediv_cancel_left _ hdp]
      have hh : rHigh p num den = -q := by unfold rHigh; rw [hl, if_pos (by rw [ea, hr, Int.neg_mul, Int.mul_comm]; omega)]
      rw [hv]; unfold rVal; simp only [hl, hh, if_pos hp]
      have hb : p * num - -q * den = 0 := by rw [ea, hr, Int.neg_mul, Int.mul_comm q]; omega
      have hb' : -q * den - p * num = 0 := by omega
      rw [hb, hb', hr]
      unfold upB
      rcases (show way = 1 ∨ way = 2 ∨ way = 3 ∨ way = 4 by omega) with rfl | rfl | rfl | rfl
      all_goals simp
      all_goals omega
    · have hl : rLow p num den = -q - 1 := by
        unfold rLow
        rw [ea, show -(den * q + r) = (den - r) + den * (-q - 1) by rw [Int.mul_sub, Int.mul_neg]; omega, Int.add_mul_ediv_left _ _ hdp, Int.ediv_eq_zero_of_lt (by omega) (by omega)]; omega
      have hm1 : (-q - 1) * den = -(den * q) - den := by rw [Int.sub_mul, Int.neg_mul, Int.mul_comm q]; omega
      have hh : rHigh p num den = -q := by unfold rHigh; rw [hl, if_neg (by rw [ea, hm1]; omega)]; omega
      rw [hv]; unfold rVal; simp only [hl, hh, if_pos hp]
      have hb : p * num - (-q - 1) * den = den - r := by rw [ea, hm1]; omega
      have hb' : -q * den - p * num = r := by rw [ea, Int.neg_mul, Int.mul_comm q]; omega
      rw [hb, hb']
      unfold upB
      rcases (show way = 1 ∨ way = 2 ∨ way = 3 ∨ way = 4 by omega) with rfl | rfl | rfl | rfl
      · simp
      · simp; omega
      · simp only [show ¬ (3 : Int) = 1 by decide, show ¬ (3 : Int) = 2 by decide, if_false, if_true]
        by_cases c1 : r < den - r
        · rw [if_pos c1, if_neg (by simp; omega)]; omega
        · by_cases c2 : den - r < r
          · rw [if_neg c1, if_pos c2, if_pos (by simp; omega)]; omega
          · rw [if_neg c1, if_neg c2, if_pos (by simp; omega)]; omega
      · simp only [show ¬ (4 : Int) = 1 by decide, show ¬ (4 : Int) = 2 by decide, show ¬ (4 : Int) = 3 by decide, if_false, if_true]
        by_cases c1 : r < den - r
        · rw [if_pos c1, if_neg (by simp; omega)]; omega
        · by_cases c2 : den - r < r
          · rw [if_neg c1, if_pos c2, if_pos (by simp; omega)]; omega
          · rw [if_neg c1, if_neg c2]
            by_cases c3 : q % 2 = 1
            · rw [if_pos (by omega), if_pos (by simp; omega)]; omega
            · rw [if_neg (by omega), if_neg (by simp; omega)]; omega
  · obtain ⟨q, r, e, h0, h1, e1, e2, hm⟩ := mag_spec p num den way hd0
    have hv : val p num den way = q + (if upB way q r den then 1 else 0) := by unfold val; rw [if_neg hp, hm]
    have hl : rLow p num den = q := e1
    have hm1 : q * den = den * q := Int.mul_comm _ _
    have hm2 : (q + 1) * den = den * q + den := by rw [Int.add_mul, hm1]; omega
    by_cases hr : r = 0
    · have hh : rHigh p num den = q := by unfold rHigh; rw [hl, if_pos (by omega)]
      rw [hv]; unfold rVal; simp only [hl, hh, if_neg hp]
      have hb : p * num - q * den = 0 := by omega
      have hb' : q * den - p * num = 0 := by omega
      rw [hb, hb', hr]
      unfold upB
      rcases (show way = 1 ∨ way = 2 ∨ way = 3 ∨ way = 4 by omega) with rfl | rfl | rfl | rfl
      all_goals simp
      all_goals omega
    · have hh : rHigh p num den = q + 1 := by unfold rHigh; rw [hl, if_neg (by omega)]
      rw [hv]; unfold rVal; simp only [hl, hh, if_neg hp]
      have hb : p * num - q * den = r := by omega
      have hb' : (q + 1) * den - p * num = den - r := by omega
      rw [hb, hb']
      unfold upB
      rcases (show way = 1 ∨ way = 2 ∨ way = 3 ∨ way = 4 by omega) with rfl | rfl | rfl | rfl
      · simp
      · simp; omega
      · simp only [show ¬ (3 : Int) = 1 by decide, show ¬ (3 : Int) = 2 by decide, if_false, if_true]
        by_cases c1 : den - r < r
        · rw [if_pos c1, if_pos (by simp; omega)]
        · by_cases c2 : r < den - r
          · rw [if_neg c1, if_pos c2, if_neg (by simp; omega)]; omega
          · rw [if_neg c1, if_neg c2, if_pos (by simp; omega)]
      · simp only [show ¬ (4 : Int) = 1 by decide, show ¬ (4 : Int) = 2 by decide, show ¬ (4 : Int) = 3 by decide, if_false, if_true]
        by_cases c1 : den - r < r
        · rw [if_pos c1, if_pos (by simp; omega)]
        · by_cases c2 : r < den - r
          · rw [if_neg c1, if_pos c2, if_neg (by simp; omega)]; omega
          · rw [if_neg c1, if_neg c2]
            by_cases c3 : q % 2 = 1
            · rw [if_neg (by omega), if_pos (by simp; omega)]
            · rw [if_pos (by omega), if_neg (by simp; omega)]; omega
end Pn
end Go.Proofs.Ytcppeligeodomaa
