/- Persons as the document counts them: plain facts. -/
import Derived.Test.YtalmjeigfhjhfaaPersonPlain
import Derived.Test.YtalmjeigfhjhfaaTermRef
set_option linter.unusedVariables false
namespace Go.Proofs.Ytalmjeigfhjhfaa
namespace Dt
def dayT (b a : Int) : Int := if 3652059 < tn b a then 0 else tn b a
theorem dayT_parts {b a : Int} (s1 : 1 ≤ b) (s2 : b ≤ 3652059) (ha : 0 ≤ a) {y m d : Int} (hd : dateOf b = (y, m, d)) :
    (9999 < y + a ∧ dayT b a = 0) ∨ (y + a ≤ 9999 ∧ dayT b a = raw (y + a) m (min d (len (y + a) m))) := by
  obtain ⟨v, _⟩ := dateOf_spec b s1 s2
  have b3 := v.m1; have b4 := v.m2
  rw [hd] at b3 b4
  have hZ : rawT 4 1 b a = monthsF b (12 * a) := by
    unfold rawT; rw [if_neg (by decide), if_neg (by decide), if_pos rfl, Int.one_mul]
  have hm : mo b = 12 * y + (m - 1) := by unfold mo; rw [hd]
  have hdm : dm b = d := by unfold dm; rw [hd]
  have hT : dayT b a = dayR 4 1 b a := by unfold dayT dayR tn; rw [hZ]
  rw [hT, ← hdm]
  exact dayR_mon 4 1 b a (12 * a) hZ s1 s2 (by omega) (y + a) m ⟨b3, b4⟩ (by rw [hm]; omega)
/-- the day in the year of a: the 29th of February may be missing -/
theorem min_len {y m d : Int} (y' : Int) (v : Valid y m d) : min d (len y' m) = if m = 2 ∧ d = 29 ∧ leapB y' = false then 28 else d := by
  have a1 := v.m1; have a2 := v.m2; have a3 := v.d2
  have l1 := len_vals y
  have l2 := len_vals y'
  have p1 := lp_01 y
  have p2 := lp_01 y'
  have hl : lp y' = if leapB y' = true then 1 else 0 := rfl
  rcases (show m = 1 ∨ m = 2 ∨ m = 3 ∨ m = 4 ∨ m = 5 ∨ m = 6 ∨ m = 7 ∨ m = 8 ∨ m = 9 ∨ m = 10 ∨ m = 11 ∨ m = 12 by omega) with rfl | rfl | rfl | rfl | rfl | rfl | rfl | rfl | rfl | rfl | rfl | rfl
  case inr.inl =>
    by_cases hb : leapB y' = true
    · rw [if_pos hb] at hl
      rw [if_neg (by rw [hb]; simp)]
      omega
    · rw [if_neg hb] at hl
      by_cases h29 : d = 29
      · rw [if_pos ⟨rfl, h29, by simpa using hb⟩]; omega
      · rw [if_neg (fun h => h29 h.2.1)]; omega
  all_goals
    rw [if_neg (by omega)]; omega
/-- the age by the years -/
theorem age_years {b n : Int} (s1 : 1 ≤ b) (hbn : b ≤ n) (s2 : n ≤ 3652059) (A : Int) (hA : A = (dateOf n).1 - (dateOf b).1) :
    0 ≤ A ∧ A ≤ 9998 ∧ dayT b A = tn b A ∧ ((tn b A ≤ n ∧ n < tn b (A + 1)) ∨ (n < tn b A ∧ 1 ≤ A ∧ tn b (A - 1) ≤ n)) := by
  obtain ⟨v, _⟩ := dateOf_spec b s1 (by omega)
  obtain ⟨u, _⟩ := dateOf_spec n (by omega) s2
  have b1 := v.y1; have b2 := v.y2; have b3 := v.m1; have b4 := v.m2
  have n1 := u.y1; have n2 := u.y2; have n3 := u.m1; have n4 := u.m2
  obtain ⟨a1, a2, a3, a4, a5⟩ := mo_spec s1 (by omega)
  obtain ⟨c1, c2, c3, c4, c5⟩ := mo_spec (by omega : 1 ≤ n) s2
  have mb : mo b = 12 * (dateOf b).1 + ((dateOf b).2.1 - 1) := rfl
  have mn : mo n = 12 * (dateOf n).1 + ((dateOf n).2.1 - 1) := rfl
  have ho := mo_order hbn s1 s2
  have hn : dayAt (mo n) (dm n) = n := by have := months_zero (by omega : 1 ≤ n) s2; unfold monthsF at this; rw [Int.add_zero] at this; exact this
  have hA0 : 0 ≤ A := by omega
  have hT : dayT b A = tn b A := by
    unfold dayT tn
    rcases months_cases s1 (by omega : b ≤ 3652059) (by omega : 0 ≤ 12 * A) with ⟨h1, h2⟩ | ⟨h1, h2⟩
    · rw [if_neg (by omega)]
    · omega
  refine ⟨hA0, by omega, hT, ?_⟩
  by_cases h : tn b A ≤ n
  · refine .inl ⟨h, ?_⟩
    show n < dayAt (mo b + 12 * (A + 1)) (dm b)
    by_cases hu : mo b + 12 * (A + 1) ≤ 119999
    · have := dayAt_lt (d := dm n) (e := dm b) (by omega : 12 ≤ mo n) (by omega : mo n < mo b + 12 * (A + 1)) c3 a3 hu
      omega
    · rw [dayAt_over (by omega)]; omega
  · have h1 : 1 ≤ A := by
      rcases (show A = 0 ∨ 1 ≤ A by omega) with rfl | h1
      · rw [tn_zero s1 (by omega)] at h; omega
      · exact h1
    refine .inr ⟨by omega, h1, ?_⟩
    have := dayAt_lt (d := dm b) (e := dm n) (by omega : 12 ≤ mo b + 12 * (A - 1)) (by omega : mo b + 12 * (A - 1) < mo n) a3 c3 c2
    show dayAt (mo b + 12 * (A - 1)) (dm b) ≤ n
    omega
theorem age_over {b n : Int} (s1 : 1 ≤ b) (hbn : b ≤ n) (s2 : n ≤ 3652059) (h : tn b 151 ≤ n) : ageF b n = (0, 2) := by
  have hK : ageK b n = 151 := first_eq _ _ _ (by omega) (fun t ht => by
    unfold overA
    have m := tn_mono (Int.le_refl b) s1 (by omega) (by omega : (0 : Int) ≤ (t : Int) + 1) (by omega : (t : Int) + 1 ≤ 151)
    exact decide_eq_false (by omega)) (fun h => absurd h (by omega))
  unfold ageF
  rw [if_neg (by omega), if_neg (by omega), hK, if_pos rfl]
/-- the age that is reckoned: A, or one less -/
theorem age_of_years {b n : Int} (s1 : 1 ≤ b) (hbn : b ≤ n) (s2 : n ≤ 3652059) (k : Int) (h0 : 0 ≤ k) (h1 : tn b k ≤ n) (h2 : n < tn b (k + 1)) : ageF b n = if 150 < k then (0, 2) else (k, 0) := by
  by_cases h : 150 < k
  · rw [if_pos h]
    have m := tn_mono (Int.le_refl b) s1 (by omega) (by omega : (0 : Int) ≤ 151) (by omega : 151 ≤ k)
    exact age_over s1 hbn s2 (by omega)
  · rw [if_neg h]
    have := age_eq (b := b) (n := n) (k := k.toNat) s1 hbn s2 (by omega) (by rw [Int.toNat_of_nonneg h0]; exact h1) (by rw [Int.toNat_of_nonneg h0]; exact h2)
    rw [this, Int.toNat_of_nonneg h0]
/-- by the age -/
def stepA (a : Int) (m : Int) (c : Cl) : Int := if c.1 ≤ a ∧ a ≤ c.2.1 ∧ m < c.2.2 then c.2.2 else m
def bestA (a : Int) (l : List Cl) : Int := l.foldl (stepA a) 0
theorem bestA_succ (a : Int) (l : List Cl) (k : Nat) (h : k < l.length) : bestA a (l.take (k + 1)) = stepA a (bestA a (l.take k)) l[k] := by
  unfold bestA
  rw [List.take_succ_eq_append_getElem h, List.foldl_append]; rfl
theorem fold_same (b n a : Int) : ∀ (l : List Cl) (m : Int), (∀ c ∈ l, ∀ m, stepP b n m c = stepA a m c) → l.foldl (stepP b n) m = l.foldl (stepA a) m
  | [], _, _ => rfl
  | c :: l, m, h => by
    rw [List.foldl_cons, List.foldl_cons, h c (by simp) m]
    exact fold_same b n a l _ (fun d hd => h d (by simp [hd]))
theorem fold_none (b n : Int) : ∀ (l : List Cl) (m : Int), (∀ c ∈ l, ∀ m, stepP b n m c = m) → l.foldl (stepP b n) m = m
  | [], _, _ => rfl
  | c :: l, m, h => by
    rw [List.foldl_cons, h c (by simp) m]
    exact fold_none b n l _ (fun d hd => h d (by simp [hd]))
theorem errP_zero {b : Int} : ∀ {l : List Cl}, errP b l = 0 → ∀ c ∈ l, (winF b c).2 = 0
  | [], _, c, hc => by simp at hc
  | d :: l, h, c, hc => by
    have h' : (if (winF b d).2 ≠ 0 then (winF b d).2 else errP b l) = 0 := h
    by_cases h0 : (winF b d).2 = 0
    · rw [if_neg (fun x => x h0)] at h'
      rcases List.mem_cons.mp hc with rfl | hc
      · exact h0
      · exact errP_zero h' c hc
    · rw [if_pos h0] at h'; exact absurd h' h0
theorem best_age {b n : Int} {l : List Cl} (hn1 : 1 ≤ n) (hn2 : n ≤ 3652059) (he : errP b l = 0) : bestP b n l = if (ageF b n).2 = 0 then bestA (ageF b n).1 l else 0 := by
  have hw := errP_zero he
  have hwin : ∀ c ∈ l, (1 ≤ b ∧ b ≤ 3652059 ∧ 0 ≤ c.1 ∧ c.1 ≤ c.2.1 ∧ c.2.1 ≤ 149 ∧ 0 ≤ c.2.2 ∧ c.2.2 ≤ 100) ∧ tn b (c.2.1 + 1) ≤ 3652059 ∧ winF b c = ((tn b c.1, tn b (c.2.1 + 1)), 0) := fun c hc => by
    rcases win_cases b c with ⟨e, g, h⟩ | h
    · have := hw c hc; rw [g] at this; exact absurd this h
    · exact h
  rcases age_cases b n with ⟨c, g, hc, _⟩ | ⟨k, ⟨s1, s2, s3⟩, hk, g, g1, g2⟩
  · rw [g, if_neg hc]
    refine fold_none b n l 0 (fun d hd m => ?_)
    obtain ⟨⟨t1, t2, t3, t4, t5, _, _⟩, t6, t7⟩ := hwin d hd
    unfold stepP
    rw [t7]
    refine if_neg (fun h => ?_)
    have hb := (tn_bd t1 t2 t3).1
    have h1 : tn b d.1 ≤ n := h.1
    have h2 : n < tn b (d.2.1 + 1) := h.2
    have hlow : ¬ tn b 150 ≤ n := fun hx => by
      have := tn_mono (Int.le_refl b) t1 t2 (by omega : (0 : Int) ≤ d.2.1 + 1) (by omega : d.2.1 + 1 ≤ 150)
      omega
    -- an age would be there
    have : ∃ k : Nat, k ≤ 150 ∧ tn b k ≤ n ∧ n < tn b ((k : Int) + 1) := by
      obtain ⟨q1, q2, q3⟩ := first_spec (overA b n) 150
      have hlt : firstF (overA b n) 150 < 150 := by
        rcases Nat.lt_or_ge (firstF (overA b n) 150) 150 with h | h
        · exact h
        · have := q2 149 (by omega)
          unfold overA at this
          have := of_decide_eq_false this
          have e : ((149 : Nat) : Int) + 1 = 150 := rfl
          rw [e] at this; omega
      have h3 := q3 hlt
      unfold overA at h3
      have h3 := of_decide_eq_true h3
      refine ⟨firstF (overA b n) 150, by omega, ?_, h3⟩
      cases hk : firstF (overA b n) 150 with
      | zero => rw [show ((0 : Nat) : Int) = 0 from rfl, tn_zero t1 t2]; omega
      | succ k =>
        have := q2 k (by omega)
        unfold overA at this
        have := of_decide_eq_false this
        rw [show ((k + 1 : Nat) : Int) = (k : Int) + 1 by omega]; omega
    obtain ⟨k, k1, k2, k3⟩ := this
    have := age_eq t1 (by omega) hn2 k1 k2 k3
    rw [g] at this; injection this with _ h; exact hc h
  · rw [g, if_pos rfl]
    refine fold_same b n k l 0 (fun d hd m => ?_)
    obtain ⟨⟨t1, t2, t3, t4, t5, _, _⟩, t6, t7⟩ := hwin d hd
    unfold stepP stepA
    rw [t7]
    have e1 : (tn b d.1 ≤ n) ↔ (d.1 ≤ (k : Int)) := by
      constructor
      · intro h
        rcases (show (k : Int) < d.1 ∨ d.1 ≤ (k : Int) by omega) with h3 | h3
        · have := tn_mono (Int.le_refl b) t1 t2 (by omega : (0 : Int) ≤ (k : Int) + 1) (by omega : (k : Int) + 1 ≤ d.1); omega
        · exact h3
      · intro h
        have := tn_mono (Int.le_refl b) t1 t2 t3 h; omega
    have e2 : (n < tn b (d.2.1 + 1)) ↔ ((k : Int) ≤ d.2.1) := by
      constructor
      · intro h
        rcases (show d.2.1 < (k : Int) ∨ (k : Int) ≤ d.2.1 by omega) with h3 | h3
        · have := tn_mono (Int.le_refl b) t1 t2 (by omega : (0 : Int) ≤ d.2.1 + 1) (by omega : d.2.1 + 1 ≤ (k : Int)); omega
        · exact h3
      · intro h
        have := tn_mono (Int.le_refl b) t1 t2 (by omega : (0 : Int) ≤ (k : Int) + 1) (by omega : (k : Int) + 1 ≤ d.2.1 + 1); omega
    simp only [e1, e2]
    by_cases p1 : d.1 ≤ (k : Int) <;> by_cases p2 : (k : Int) ≤ d.2.1 <;> by_cases p3 : m < d.2.2 <;> simp [p1, p2, p3]
end Dt
end Go.Proofs.Ytalmjeigfhjhfaa
