/- Fares: the least sum of ranges that have all zones, and what mending makes of it. -/
import Derived.Test.YtcppeligeodomaaFarePlain2
set_option linter.unusedVariables false
namespace Go.Proofs.Ytcppeligeodomaa
namespace Fa
/-- a sum of ranges that have all zones from a on, those from e on not asked: the first one has a, and ends somewhere -/
inductive Ach (m : List (List Int)) (e : Nat) : Nat → Int → Prop
  | done (a : Nat) : e ≤ a → Ach m e a 0
  | step (a x y : Nat) (s : Int) : a < e → x ≤ a → a ≤ y → y < m.length → Ach m e (y + 1) s → Ach m e a (price m x y + s)
section
variable {m : List (List Int)} (hm : Ok m)
include hm
theorem ach_nonneg {e a : Nat} {s : Int} (h : Ach m e a s) : 0 ≤ s := by
  induction h with
  | done => exact Int.le_refl _
  | step a x y s h1 h2 h3 h4 _ ih => have := (price_ok hm (show x ≤ y by omega) h4).1; omega
/-- who begins later needs no more -/
theorem ach_later {e a : Nat} {s : Int} (h : Ach m e a s) : ∀ a', a ≤ a' → ∃ s', s' ≤ s ∧ Ach m e a' s' := by
  induction h with
  | done a h1 => exact fun a' ha => ⟨0, Int.le_refl _, .done a' (by omega)⟩
  | step a x y s h1 h2 h3 h4 h5 ih =>
    intro a' ha
    have hp := (price_ok hm (show x ≤ y by omega) h4).1
    by_cases hc : a' ≤ y
    · by_cases he : a' < e
      · exact ⟨_, Int.le_refl _, .step a' x y s he (by omega) hc h4 h5⟩
      · exact ⟨0, by have := ach_nonneg hm h5; omega, .done a' (by omega)⟩
    · obtain ⟨s', h6, h7⟩ := ih a' (by omega)
      exact ⟨s', by omega, h7⟩
/-- one cover behind another one -/
theorem ach_join {c a : Nat} {s : Int} (h : Ach m c a s) : ∀ (e : Nat) (t : Int), c ≤ e → Ach m e c t → ∃ s', s' ≤ s + t ∧ Ach m e a s' := by
  induction h with
  | done a h1 =>
    intro e t he ht
    obtain ⟨s', h2, h3⟩ := ach_later hm ht a h1
    exact ⟨s', by omega, h3⟩
  | step a x y s h1 h2 h3 h4 h5 ih =>
    intro e t he ht
    obtain ⟨s', h6, h7⟩ := ih e t he ht
    exact ⟨price m x y + s', by omega, .step a x y s' (by omega) h2 h3 h4 h7⟩
/-- what answers to mending's rule is the least sum -/
theorem mend_least (M : Nat → Nat → Int)
    (h1 : ∀ a b x y, x ≤ a → a ≤ b → b ≤ y → y < m.length → M a b ≤ price m x y)
    (h2 : ∀ a c b, a ≤ c → c < b → b < m.length → M a b ≤ M a c + M (c + 1) b)
    (h3 : ∀ a b, a ≤ b → b < m.length → (∃ x y, x ≤ a ∧ b ≤ y ∧ y < m.length ∧ M a b = price m x y) ∨ ∃ c, a ≤ c ∧ c < b ∧ M a b = M a c + M (c + 1) b) :
    ∀ a b, a ≤ b → b < m.length → (∃ s, s ≤ M a b ∧ Ach m (b + 1) a s) ∧ ∀ s, Ach m (b + 1) a s → M a b ≤ s := by
  have up : ∀ (k a b : Nat), b - a ≤ k → a ≤ b → b < m.length → ∃ s, s ≤ M a b ∧ Ach m (b + 1) a s := by
    intro k
    induction k with
    | zero =>
      intro a b hk hab hb
      rcases h3 a b hab hb with ⟨x, y, g1, g2, g3, g4⟩ | ⟨c, g1, g2, _⟩
      · exact ⟨price m x y + 0, by omega, .step a x y 0 (by omega) g1 (by omega) g3 (.done _ (by omega))⟩
      · omega
    | succ k ih =>
      intro a b hk hab hb
      rcases h3 a b hab hb with ⟨x, y, g1, g2, g3, g4⟩ | ⟨c, g1, g2, g3⟩
      · exact ⟨price m x y + 0, by omega, .step a x y 0 (by omega) g1 (by omega) g3 (.done _ (by omega))⟩
      · obtain ⟨s, i1, i2⟩ := ih a c (by omega) g1 (by omega)
        obtain ⟨t, j1, j2⟩ := ih (c + 1) b (by omega) (by omega) hb
        obtain ⟨s', e1, e2⟩ := ach_join hm i2 (b + 1) t (by omega) j2
        exact ⟨s', by omega, e2⟩
  have low : ∀ (e a : Nat) (s : Int), Ach m e a s → ∀ b, e = b + 1 → a ≤ b → b < m.length → M a b ≤ s := by
    intro e a s h
    induction h with
    | done a g => intro b he hab hb; omega
    | step a x y s g1 g2 g3 g4 g5 ih =>
      intro b he hab hb
      have hs := ach_nonneg hm g5
      by_cases hy : b ≤ y
      · have := h1 a b x y g2 hab hy g4; omega
      · have i1 := ih b he (by omega) hb
        have i2 := h1 a y x y g2 g3 (Nat.le_refl _) g4
        have i3 := h2 a y b g3 (by omega) hb
        omega
  exact fun a b hab hb => ⟨up (b - a) a b (Nat.le_refl _) hab hb, fun s h => low _ _ _ h b rfl hab hb⟩
omit hm in
/-- two that answer to it are the same -/
theorem mend_unique (M M' : Nat → Nat → Int)
    (h : ∀ a b, a ≤ b → b < m.length → (∃ s, s ≤ M a b ∧ Ach m (b + 1) a s) ∧ ∀ s, Ach m (b + 1) a s → M a b ≤ s)
    (h' : ∀ a b, a ≤ b → b < m.length → (∃ s, s ≤ M' a b ∧ Ach m (b + 1) a s) ∧ ∀ s, Ach m (b + 1) a s → M' a b ≤ s)
    (a b : Nat) (hab : a ≤ b) (hb : b < m.length) : M a b = M' a b := by
  obtain ⟨⟨s, i1, i2⟩, i3⟩ := h a b hab hb
  obtain ⟨⟨t, j1, j2⟩, j3⟩ := h' a b hab hb
  have := i3 t j2
  have := j3 s i2
  omega
end
end Fa
end Go.Proofs.Ytcppeligeodomaa
