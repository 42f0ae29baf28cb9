/- Persons: plain facts on whole numbers, no program in sight. -/
import Derived.Test.YtalmjeigfhjhfaaTermPlain
set_option linter.unusedVariables false
namespace Go.Proofs.Ytalmjeigfhjhfaa
namespace Dt
/-- the day on which one turns so old -/
def tn (b a : Int) : Int := monthsF b (12 * a)
theorem tn_mono {b c p q : Int} (h : b ≤ c) (h1 : 1 ≤ b) (h2 : c ≤ 3652059) (hp : 0 ≤ p) (hq : p ≤ q) : tn b p ≤ tn c q := months_mono h h1 h2 (by omega) (by omega)
theorem tn_lt {b c p q : Int} (h : b ≤ c) (h1 : 1 ≤ b) (h2 : c ≤ 3652059) (hp : 0 ≤ p) (hq : p < q) (hv : tn c q ≤ 3652059) : tn b p < tn c q := months_lt h h1 h2 (by omega) (by omega) hv
theorem tn_zero {b : Int} (h1 : 1 ≤ b) (h2 : b ≤ 3652059) : tn b 0 = b := by unfold tn; rw [Int.mul_zero]; exact months_zero h1 h2
theorem tn_bd {b a : Int} (h1 : 1 ≤ b) (h2 : b ≤ 3652059) (ha : 0 ≤ a) : b ≤ tn b a ∧ tn b a ≤ 3652060 := by
  have h := tn_mono (Int.le_refl b) h1 h2 (Int.le_refl 0) ha
  rw [tn_zero h1 h2] at h
  refine ⟨h, ?_⟩
  unfold tn
  rcases months_cases h1 h2 (by omega : 0 ≤ 12 * a) with g | g <;> omega
def turnsF (b a : Int) : Int × Int := if b < 1 ∨ 3652059 < b ∨ a < 0 ∨ 150 < a then (0, 3) else if 3652059 < tn b a then (0, 8) else (tn b a, 0)
theorem turns_cases (b a : Int) : (∃ c : Int, turnsF b a = (0, c) ∧ c ≠ 0) ∨ ((1 ≤ b ∧ b ≤ 3652059 ∧ 0 ≤ a ∧ a ≤ 150) ∧ tn b a ≤ 3652059 ∧ turnsF b a = (tn b a, 0)) := by
  unfold turnsF
  by_cases h2 : b < 1 ∨ 3652059 < b ∨ a < 0 ∨ 150 < a
  · rw [if_pos h2]; exact .inl ⟨3, rfl, by decide⟩
  · rw [if_neg h2]
    by_cases h3 : 3652059 < tn b a
    · rw [if_pos h3]; exact .inl ⟨8, rfl, by decide⟩
    · rw [if_neg h3]; exact .inr ⟨by omega, by omega, rfl⟩
def overA (b n : Int) (a : Nat) : Bool := decide (n < tn b ((a : Int) + 1))
def ageK (b n : Int) : Nat := firstF (overA b n) 151
def ageF (b n : Int) : Int × Int := if b < 1 ∨ 3652059 < b ∨ n < 1 ∨ 3652059 < n then (0, 3) else if n < b then (0, 4) else if ageK b n = 151 then (0, 2) else ((ageK b n : Int), 0)
theorem overA_mono {b n : Int} (h1 : 1 ≤ b) (h2 : b ≤ 3652059) : ∀ a c : Nat, a ≤ c → overA b n a = true → overA b n c = true := by
  intro a c hac h
  unfold overA at *
  have := of_decide_eq_true h
  have m := tn_mono (Int.le_refl b) h1 h2 (by omega : (0 : Int) ≤ (a : Int) + 1) (by omega : (a : Int) + 1 ≤ (c : Int) + 1)
  exact decide_eq_true (by omega)
/-- the age is known by its two days -/
theorem age_eq {b n : Int} {k : Nat} (h1 : 1 ≤ b) (h2 : b ≤ n) (h3 : n ≤ 3652059) (hk : k ≤ 150) (g1 : tn b k ≤ n) (g2 : n < tn b ((k : Int) + 1)) : ageF b n = ((k : Int), 0) := by
  have hK : ageK b n = k := first_eq _ _ _ (by omega) (fun t ht => by
    unfold overA
    have m := tn_mono (Int.le_refl b) h1 (by omega) (by omega : (0 : Int) ≤ (t : Int) + 1) (by omega : (t : Int) + 1 ≤ (k : Int))
    exact decide_eq_false (by omega)) (fun _ => by unfold overA; exact decide_eq_true g2)
  unfold ageF
  rw [if_neg (by omega), if_neg (by omega), hK, if_neg (by omega)]
theorem age_cases (b n : Int) : (∃ c : Int, ageF b n = (0, c) ∧ c ≠ 0 ∧ (c = 2 → 1 ≤ b ∧ b ≤ n ∧ n ≤ 3652059 ∧ tn b 151 ≤ n)) ∨ (∃ k : Nat, (1 ≤ b ∧ b ≤ n ∧ n ≤ 3652059) ∧ k ≤ 150 ∧ ageF b n = ((k : Int), 0) ∧ tn b k ≤ n ∧ n < tn b ((k : Int) + 1)) := by
  unfold ageF
  by_cases h2 : b < 1 ∨ 3652059 < b ∨ n < 1 ∨ 3652059 < n
  · rw [if_pos h2]; exact .inl ⟨3, rfl, by decide, fun h => by omega⟩
  · rw [if_neg h2]
    by_cases h3 : n < b
    · rw [if_pos h3]; exact .inl ⟨4, rfl, by decide, fun h => by omega⟩
    · rw [if_neg h3]
      obtain ⟨g1, g2, g3⟩ := first_spec (overA b n) 151
      by_cases h4 : ageK b n = 151
      · rw [if_pos h4]
        refine .inl ⟨2, rfl, by decide, fun _ => ⟨by omega, by omega, by omega, ?_⟩⟩
        have := g2 150 (by unfold ageK at h4; omega)
        unfold overA at this
        have := of_decide_eq_false this
        have e : ((150 : Nat) : Int) + 1 = 151 := rfl
        rw [e] at this
        omega
      · rw [if_neg h4]
        refine .inr ⟨ageK b n, by omega, by unfold ageK at h4 ⊢; omega, rfl, ?_, ?_⟩
        · unfold ageK
          cases hk : firstF (overA b n) 151 with
          | zero => rw [Int.natCast_zero, tn_zero (by omega) (by omega)]; omega
          | succ k =>
            have := g2 k (by omega)
            unfold overA at this
            have := of_decide_eq_false this
            rw [show ((k + 1 : Nat) : Int) = (k : Int) + 1 by omega]
            omega
        · have := g3 (by unfold ageK at h4; omega)
          unfold overA at this
          exact of_decide_eq_true this
/-- classes: from, to, percent -/
abbrev Cl := Int × Int × Int
def winF (b : Int) (c : Cl) : (Int × Int) × Int := if b < 1 ∨ 3652059 < b ∨ c.1 < 0 ∨ c.2.1 < c.1 ∨ 149 < c.2.1 ∨ c.2.2 < 0 ∨ 100 < c.2.2 then ((0, 0), 3) else if 3652059 < tn b (c.2.1 + 1) then ((0, 0), 8) else ((tn b c.1, tn b (c.2.1 + 1)), 0)
theorem win_cases (b : Int) (c : Cl) : (∃ e : Int, winF b c = ((0, 0), e) ∧ e ≠ 0) ∨ ((1 ≤ b ∧ b ≤ 3652059 ∧ 0 ≤ c.1 ∧ c.1 ≤ c.2.1 ∧ c.2.1 ≤ 149 ∧ 0 ≤ c.2.2 ∧ c.2.2 ≤ 100) ∧ tn b (c.2.1 + 1) ≤ 3652059 ∧ winF b c = ((tn b c.1, tn b (c.2.1 + 1)), 0)) := by
  unfold winF
  by_cases h2 : b < 1 ∨ 3652059 < b ∨ c.1 < 0 ∨ c.2.1 < c.1 ∨ 149 < c.2.1 ∨ c.2.2 < 0 ∨ 100 < c.2.2
  · rw [if_pos h2]; exact .inl ⟨3, rfl, by decide⟩
  · rw [if_neg h2]
    by_cases h3 : 3652059 < tn b (c.2.1 + 1)
    · rw [if_pos h3]; exact .inl ⟨8, rfl, by decide⟩
    · rw [if_neg h3]; exact .inr ⟨by omega, by omega, rfl⟩
def stepP (b n : Int) (m : Int) (c : Cl) : Int := if (winF b c).1.1 ≤ n ∧ n < (winF b c).1.2 then (if m < c.2.2 then c.2.2 else m) else m
def bestP (b n : Int) (l : List Cl) : Int := l.foldl (stepP b n) 0
def errP (b : Int) : List Cl → Int
  | [] => 0
  | c :: l => if (winF b c).2 ≠ 0 then (winF b c).2 else errP b l
theorem errP_at (b : Int) : ∀ (l : List Cl) (k : Nat) (h : k < l.length), (∀ j (hj : j < l.length), j < k → (winF b l[j]).2 = 0) → (winF b l[k]).2 ≠ 0 → errP b l = (winF b l[k]).2
  | c :: l, 0, h, _, he => by
    have he' : (winF b c).2 ≠ 0 := he
    show (if _ then _ else _) = _
    rw [if_pos he']; rfl
  | c :: l, k + 1, h, hall, he => by
    have h0 : (winF b c).2 = 0 := hall 0 (by simp) (by omega)
    show (if _ then _ else _) = _
    rw [if_neg (fun x => x h0)]
    exact errP_at b l k (by simpa using h) (fun j hj hjk => hall (j + 1) (by simpa using hj) (by omega)) he
theorem errP_none (b : Int) : ∀ (l : List Cl), (∀ j (hj : j < l.length), (winF b l[j]).2 = 0) → errP b l = 0
  | [], _ => rfl
  | c :: l, hall => by
    have h0 : (winF b c).2 = 0 := hall 0 (by simp)
    show (if _ then _ else _) = _
    rw [if_neg (fun x => x h0)]
    exact errP_none b l (fun j hj => hall (j + 1) (by simpa using hj))
theorem bestP_succ (b n : Int) (l : List Cl) (k : Nat) (h : k < l.length) : bestP b n (l.take (k + 1)) = stepP b n (bestP b n (l.take k)) l[k] := by
  unfold bestP
  rw [List.take_succ_eq_append_getElem h, List.foldl_append]; rfl
def percF (b : Int) (l : List Cl) (n : Int) : Int × Int := if 8 < l.length then (0, 2) else if errP b l ≠ 0 then (0, errP b l) else if n < 1 ∨ 3652059 < n then (0, 3) else (bestP b n l, 0)
end Dt
end Go.Proofs.Ytalmjeigfhjhfaa
