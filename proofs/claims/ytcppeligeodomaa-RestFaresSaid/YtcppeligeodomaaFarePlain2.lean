/- Fares: what is fair, by steps and against all. -/
import Derived.Test.YtcppeligeodomaaFarePlain
set_option linter.unusedVariables false
namespace Go.Proofs.Ytcppeligeodomaa
namespace Fa
/-- the document's: each range against each wider one, and against two parts -/
structure Fair (m : List (List Int)) : Prop where
  wide : ∀ (a b x y : Nat), x ≤ a → a ≤ b → b ≤ y → y < m.length → price m a b ≤ price m x y
  part : ∀ (a c b : Nat), a ≤ c → c < b → b < m.length → price m a b ≤ price m a c + price m (c + 1) b
/-- the code's: against its two neighbours, and against two parts -/
structure Step (m : List (List Int)) (a b : Nat) : Prop where
  left : 0 < a → price m a b ≤ price m (a - 1) b
  right : b + 1 < m.length → price m a b ≤ price m a (b + 1)
  part : ∀ c : Nat, a ≤ c → c < b → price m a b ≤ price m a c + price m (c + 1) b
theorem fair_step (m : List (List Int)) : Fair m ↔ ∀ (a b : Nat), a ≤ b → b < m.length → Step m a b := by
  constructor
  · intro h a b hab hb
    exact ⟨fun h0 => h.wide a b (a - 1) b (by omega) hab (Nat.le_refl _) hb, fun h1 => h.wide a b a (b + 1) (Nat.le_refl _) hab (by omega) h1, fun c h1 h2 => h.part a c b h1 h2 hb⟩
  · intro h
    have right : ∀ (k a b : Nat), a ≤ b → b + k < m.length → price m a b ≤ price m a (b + k) := by
      intro k
      induction k with
      | zero => intro a b _ _; exact Int.le_refl _
      | succ k ih =>
        intro a b hab hb
        have h1 := ih a b hab (by omega)
        have h2 := (h a (b + k) (by omega) (by omega)).right (by omega)
        exact Int.le_trans h1 h2
    have left : ∀ (k a b : Nat), k ≤ a → a ≤ b → b < m.length → price m a b ≤ price m (a - k) b := by
      intro k
      induction k with
      | zero => intro a b _ _ _; exact Int.le_refl _
      | succ k ih =>
        intro a b hk hab hb
        have h1 := ih a b (by omega) hab hb
        have h2 := (h (a - k) b (by omega) hb).left (by omega)
        rw [show a - k - 1 = a - (k + 1) by omega] at h2
        exact Int.le_trans h1 h2
    refine ⟨fun a b x y hx hab hy hyn => ?_, fun a c b h1 h2 hb => (h a b (by omega) hb).part c h1 h2⟩
    have h1 := left (a - x) a b (by omega) hab (by omega)
    rw [show a - (a - x) = x by omega] at h1
    have h2 := right (y - b) x b (by omega) (by omega)
    rw [show b + (y - b) = y by omega] at h2
    exact Int.le_trans h1 h2
end Fa
end Go.Proofs.Ytcppeligeodomaa
