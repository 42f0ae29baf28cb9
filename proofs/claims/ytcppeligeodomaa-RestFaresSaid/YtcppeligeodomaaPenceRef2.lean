/- The document's Part: all cases together. -/
import Derived.Test.YtcppeligeodomaaPenceRef
set_option linter.unusedVariables false
namespace Go.Proofs.Ytcppeligeodomaa
open Go.RowKit
namespace Pn
theorem rVal_ex (p num den way low : Int) (hl : p * num / den = low) (m1 : low * den = p * num) : rVal p num den way = low := by
  unfold rVal rHigh rLow
  simp only [hl, m1, if_true]
  have e1 : p * num - p * num = 0 := by omega
  rw [e1]
  repeat' split
  all_goals rfl
theorem rVal_ne (p num den way low bl ab : Int) (hl : p * num / den = low) (m1 : low * den = p * num - bl) (m2 : (low + 1) * den = p * num + ab) (hb : 0 < bl) :
    rVal p num den way = if way = 1 then (if p < 0 then low + 1 else low) else if way = 2 then (if p < 0 then low else low + 1) else if ab < bl then low + 1 else if bl < ab then low else if way = 3 then (if p < 0 then low else low + 1) else if low % 2 = 0 then low else low + 1 := by
  unfold rVal rHigh rLow
  have h1 : ¬ low * den = p * num := by omega
  have h2 : p * num - low * den = bl := by omega
  have h3 : (low + 1) * den - p * num = ab := by omega
  simp only [hl, if_neg h1, h2, h3]
theorem par0 (low : Int) (h : low % 2 = 0) : (low.tmod 2 != 0) = false := by
  have : low.tmod 2 = 0 := Int.tmod_eq_zero_of_dvd (Int.dvd_of_emod_eq_zero h)
  simp [this]
theorem par1 (low : Int) (h : low % 2 = 1) : (low.tmod 2 != 0) = true := by
  have : ¬ low.tmod 2 = 0 := fun x => by have := Int.emod_eq_zero_of_dvd (Int.dvd_of_tmod_eq_zero x); omega
  simp [this]
theorem partR_any (p num den way : Int) (w : World) : Calls Try.prog 39 #[.int .i64 p, .int .i64 num, .int .i64 den, .int .i64 way] w (PartQ p num den way w) := by
  by_cases hp : isA p
  · by_cases hw : okW way
    · by_cases hn : okN num den
      · have ht := part_eq hp hw hn
        rw [← rVal_eq p num den way hw hn] at ht
        have H := Lib.hid hp
        obtain ⟨hp0, hp1⟩ := hp
        obtain ⟨hn0, hn1, hd0, hd1⟩ := hn
        have x0 : -109951162777600000 ≤ p * num ∧ p * num ≤ 109951162777600000 := by
          by_cases h : 0 ≤ p
          · have l1 := Int.mul_nonneg h hn0
            have l2 : p * num ≤ p * 100000 := Int.mul_le_mul_of_nonneg_left hn1 h
            exact ⟨by omega, by omega⟩
          · have l1 := Int.mul_nonneg (show 0 ≤ -p by omega) hn0
            have l2 : -p * num ≤ -p * 100000 := Int.mul_le_mul_of_nonneg_left hn1 (by omega)
            rw [Int.neg_mul] at l1 l2
            exact ⟨by omega, by omega⟩
        obtain ⟨x, hx⟩ : ∃ x, p * num = x := ⟨_, rfl⟩
        obtain ⟨low, hl⟩ : ∃ low, x / den = low := ⟨_, rfl⟩
        obtain ⟨r, hr⟩ : ∃ r, x % den = r := ⟨_, rfl⟩
        have ds := div_spec x den hd0
        rw [hl, hr] at ds
        have hld : low * den = x - r := by rw [Int.mul_comm]; omega
        have hl1 : (low + 1) * den = x + (den - r) := by rw [Int.add_mul, hld]; omega
        rw [hx] at x0
        have lb : -110000000000000001 ≤ low ∧ low ≤ 110000000000000000 := by
          by_cases h : 0 ≤ low
          · have l2 : low * 1 ≤ low * den := Int.mul_le_mul_of_nonneg_left hd0 h
            exact ⟨by omega, by omega⟩
          · have l2 : -(low + 1) * 1 ≤ -(low + 1) * den := Int.mul_le_mul_of_nonneg_left hd0 (by omega)
            rw [Int.neg_mul (low + 1) den] at l2
            exact ⟨by omega, by omega⟩
        have hl' : p * num / den = low := by rw [hx]; exact hl
        by_cases hr0 : r = 0
        · have m1 : low * den = x := by omega
          have hv := rVal_ex p num den way low hl' (by rw [hx]; exact m1)
          rw [hv] at ht
          rcases (show way = 1 ∨ way = 2 ∨ way = 3 ∨ way = 4 by unfold okW at hw; omega) with rfl | rfl | rfl | rfl
          · by_cases hs : p < 0
            · exact rp11e p num den x low 0 0 _ w H hn0 hn1 hd0 hd1 hs hx (by omega) (by omega) (Lib.hid hl) lb.1 lb.2 m1 rfl (Lib.hid ht)
            · have hs : 0 ≤ p := by omega
              exact rp10e p num den x low 0 0 _ w H hn0 hn1 hd0 hd1 hs hx (by omega) (by omega) (Lib.hid hl) lb.1 lb.2 m1 rfl (Lib.hid ht)
          · by_cases hs : p < 0
            · exact rp21e p num den x low 0 0 _ w H hn0 hn1 hd0 hd1 hs hx (by omega) (by omega) (Lib.hid hl) lb.1 lb.2 m1 rfl (Lib.hid ht)
            · have hs : 0 ≤ p := by omega
              exact rp20e p num den x low 0 0 _ w H hn0 hn1 hd0 hd1 hs hx (by omega) (by omega) (Lib.hid hl) lb.1 lb.2 m1 rfl (Lib.hid ht)
          · by_cases hs : p < 0
            · exact rp31e p num den x low 0 0 _ w H hn0 hn1 hd0 hd1 hs hx (by omega) (by omega) (Lib.hid hl) lb.1 lb.2 m1 rfl (Lib.hid ht)
            · have hs : 0 ≤ p := by omega
              exact rp30e p num den x low 0 0 _ w H hn0 hn1 hd0 hd1 hs hx (by omega) (by omega) (Lib.hid hl) lb.1 lb.2 m1 rfl (Lib.hid ht)
          · by_cases hs : p < 0
            · rcases (show low % 2 = 0 ∨ low % 2 = 1 by omega) with pr | pr
              · exact rp41e0 p num den x low 0 0 _ w H hn0 hn1 hd0 hd1 hs hx (by omega) (by omega) (Lib.hid hl) lb.1 lb.2 m1 (par0 low pr) rfl (Lib.hid ht)
              · exact rp41e1 p num den x low 0 0 _ w H hn0 hn1 hd0 hd1 hs hx (by omega) (by omega) (Lib.hid hl) lb.1 lb.2 m1 (par1 low pr) rfl (Lib.hid ht)
            · have hs : 0 ≤ p := by omega
              rcases (show low % 2 = 0 ∨ low % 2 = 1 by omega) with pr | pr
              · exact rp40e0 p num den x low 0 0 _ w H hn0 hn1 hd0 hd1 hs hx (by omega) (by omega) (Lib.hid hl) lb.1 lb.2 m1 (par0 low pr) rfl (Lib.hid ht)
              · exact rp40e1 p num den x low 0 0 _ w H hn0 hn1 hd0 hd1 hs hx (by omega) (by omega) (Lib.hid hl) lb.1 lb.2 m1 (par1 low pr) rfl (Lib.hid ht)
        · have hv := rVal_ne p num den way low r (den - r) hl' (by rw [hx]; exact hld) (by rw [hx]; exact hl1) (by omega)
          rw [hv] at ht
          have hr1 : 0 < den - r := by omega
          have hr2 : den - r ≤ 100000 := by omega
          obtain ⟨ab, hab⟩ : ∃ ab, den - r = ab := ⟨_, rfl⟩
          rw [hab] at ht hl1 hr1 hr2
          rcases (show way = 1 ∨ way = 2 ∨ way = 3 ∨ way = 4 by unfold okW at hw; omega) with rfl | rfl | rfl | rfl
          · by_cases hs : p < 0
            · exact rp11n p num den x low r ab _ w H hn0 hn1 hd0 hd1 hs hx (by omega) (by omega) (Lib.hid hl) lb.1 lb.2 hld hl1 (by omega) hr1 (by omega) hr2 rfl (Lib.hid (by rw [ht]; simp [hs]))
            · have hs : 0 ≤ p := by omega
              have hs' : ¬ p < 0 := by omega
              exact rp10n p num den x low r ab _ w H hn0 hn1 hd0 hd1 hs hx (by omega) (by omega) (Lib.hid hl) lb.1 lb.2 hld hl1 (by omega) hr1 (by omega) hr2 rfl (Lib.hid (by rw [ht]; simp [hs']))
          · by_cases hs : p < 0
            · exact rp21n p num den x low r ab _ w H hn0 hn1 hd0 hd1 hs hx (by omega) (by omega) (Lib.hid hl) lb.1 lb.2 hld hl1 (by omega) hr1 (by omega) hr2 rfl (Lib.hid (by rw [ht]; simp [hs]))
            · have hs : 0 ≤ p := by omega
              have hs' : ¬ p < 0 := by omega
              exact rp20n p num den x low r ab _ w H hn0 hn1 hd0 hd1 hs hx (by omega) (by omega) (Lib.hid hl) lb.1 lb.2 hld hl1 (by omega) hr1 (by omega) hr2 rfl (Lib.hid (by rw [ht]; simp [hs']))
          · by_cases hs : p < 0
            · rcases (show r < ab ∨ ab < r ∨ r = ab by omega) with c | c | c
              · have c' : ¬ ab < r := by omega
                exact rp31l p num den x low r ab _ w H hn0 hn1 hd0 hd1 hs hx (by omega) (by omega) (Lib.hid hl) lb.1 lb.2 hld hl1 (by omega) hr1 (by omega) hr2 c rfl (Lib.hid (by rw [ht]; simp [c, c']))
              · exact rp31g p num den x low r ab _ w H hn0 hn1 hd0 hd1 hs hx (by omega) (by omega) (Lib.hid hl) lb.1 lb.2 hld hl1 (by omega) hr1 (by omega) hr2 c rfl (Lib.hid (by rw [ht]; simp [c]))
              · have c1 : ¬ ab < r := by omega
                have c2 : ¬ r < ab := by omega
                exact rp31q p num den x low r ab _ w H hn0 hn1 hd0 hd1 hs hx (by omega) (by omega) (Lib.hid hl) lb.1 lb.2 hld hl1 (by omega) hr1 (by omega) hr2 c rfl (Lib.hid (by rw [ht]; simp [c1, c2, hs]))
            · have hs : 0 ≤ p := by omega
              have hs' : ¬ p < 0 := by omega
              rcases (show r < ab ∨ ab < r ∨ r = ab by omega) with c | c | c
              · have c' : ¬ ab < r := by omega
                exact rp30l p num den x low r ab _ w H hn0 hn1 hd0 hd1 hs hx (by omega) (by omega) (Lib.hid hl) lb.1 lb.2 hld hl1 (by omega) hr1 (by omega) hr2 c rfl (Lib.hid (by rw [ht]; simp [c, c']))
              · exact rp30g p num den x low r ab _ w H hn0 hn1 hd0 hd1 hs hx (by omega) (by omega) (Lib.hid hl) lb.1 lb.2 hld hl1 (by omega) hr1 (by omega) hr2 c rfl (Lib.hid (by rw [ht]; simp [c]))
              · have c1 : ¬ ab < r := by omega
                have c2 : ¬ r < ab := by omega
                exact rp30q p num den x low r ab _ w H hn0 hn1 hd0 hd1 hs hx (by omega) (by omega) (Lib.hid hl) lb.1 lb.2 hld hl1 (by omega) hr1 (by omega) hr2 c rfl (Lib.hid (by rw [ht]; simp [c1, c2, hs']))
          · by_cases hs : p < 0
            · rcases (show r < ab ∨ ab < r ∨ r = ab by omega) with c | c | c
              · have c' : ¬ ab < r := by omega
                exact rp41l p num den x low r ab _ w H hn0 hn1 hd0 hd1 hs hx (by omega) (by omega) (Lib.hid hl) lb.1 lb.2 hld hl1 (by omega) hr1 (by omega) hr2 c rfl (Lib.hid (by rw [ht]; simp [c, c']))
              · exact rp41g p num den x low r ab _ w H hn0 hn1 hd0 hd1 hs hx (by omega) (by omega) (Lib.hid hl) lb.1 lb.2 hld hl1 (by omega) hr1 (by omega) hr2 c rfl (Lib.hid (by rw [ht]; simp [c]))
              · have c1 : ¬ ab < r := by omega
                have c2 : ¬ r < ab := by omega
                rcases (show low % 2 = 0 ∨ low % 2 = 1 by omega) with pr | pr
                · exact rp41q0 p num den x low r ab _ w H hn0 hn1 hd0 hd1 hs hx (by omega) (by omega) (Lib.hid hl) lb.1 lb.2 hld hl1 (by omega) hr1 (by omega) hr2 c (par0 low pr) rfl (Lib.hid (by rw [ht]; simp [c1, c2, pr]))
                · exact rp41q1 p num den x low r ab _ w H hn0 hn1 hd0 hd1 hs hx (by omega) (by omega) (Lib.hid hl) lb.1 lb.2 hld hl1 (by omega) hr1 (by omega) hr2 c (par1 low pr) rfl (Lib.hid (by rw [ht]; simp [c1, c2, pr]))
            · have hs : 0 ≤ p := by omega
              have hs' : ¬ p < 0 := by omega
              rcases (show r < ab ∨ ab < r ∨ r = ab by omega) with c | c | c
              · have c' : ¬ ab < r := by omega
                exact rp40l p num den x low r ab _ w H hn0 hn1 hd0 hd1 hs hx (by omega) (by omega) (Lib.hid hl) lb.1 lb.2 hld hl1 (by omega) hr1 (by omega) hr2 c rfl (Lib.hid (by rw [ht]; simp [c, c']))
              · exact rp40g p num den x low r ab _ w H hn0 hn1 hd0 hd1 hs hx (by omega) (by omega) (Lib.hid hl) lb.1 lb.2 hld hl1 (by omega) hr1 (by omega) hr2 c rfl (Lib.hid (by rw [ht]; simp [c]))
              · have c1 : ¬ ab < r := by omega
                have c2 : ¬ r < ab := by omega
                rcases (show low % 2 = 0 ∨ low % 2 = 1 by omega) with pr | pr
                · exact rp40q0 p num den x low r ab _ w H hn0 hn1 hd0 hd1 hs hx (by omega) (by omega) (Lib.hid hl) lb.1 lb.2 hld hl1 (by omega) hr1 (by omega) hr2 c (par0 low pr) rfl (Lib.hid (by rw [ht]; simp [c1, c2, pr]))
                · exact rp40q1 p num den x low r ab _ w H hn0 hn1 hd0 hd1 hs hx (by omega) (by omega) (Lib.hid hl) lb.1 lb.2 hld hl1 (by omega) hr1 (by omega) hr2 c (par1 low pr) rfl (Lib.hid (by rw [ht]; simp [c1, c2, pr]))
      · have ht : part p num den way = (0, 3) := by unfold part; rw [if_neg (fun x => x hp), if_neg (fun x => x hw), if_pos hn]
        exact partR_bad2 p num den way w (Lib.hid hp) hw.1 hw.2 (by unfold okN at hn; omega) (Lib.hid ht)
    · have ht : part p num den way = (0, 7) := by unfold part; rw [if_neg (fun x => x hp), if_pos hw]
      exact partR_bad1 p num den way w (Lib.hid hp) (by unfold okW at hw; omega) (Lib.hid ht)
  · have ht : part p num den way = (0, 3) := by unfold part; rw [if_pos hp]
    exact partR_bad0 p num den way w (Lib.hid hp) (Lib.hid ht)
end Pn
end Go.Proofs.Ytcppeligeodomaa
