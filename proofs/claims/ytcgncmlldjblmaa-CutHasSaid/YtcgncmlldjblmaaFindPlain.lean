/- The first place where something holds: plain facts. -/
import Derived.Test.YtcgncmlldjblmaaBase
set_option linter.unusedSimpArgs false
set_option linter.unusedVariables false
namespace Go.Proofs.Ytcgncmlldjblmaa
def findN {α : Type} (p : α → Bool) : List α → Nat
  | [] => 0
  | x :: l => if p x then 0 else findN p l + 1
section
variable {α : Type} (p : α → Bool)
theorem findN_le : ∀ l : List α, findN p l ≤ l.length
  | [] => Nat.le_refl _
  | x :: l => by
    show (if p x then 0 else findN p l + 1) ≤ _
    by_cases h : p x
    · rw [if_pos h]; omega
    · rw [if_neg h]; have := findN_le l; simp; omega
theorem findN_eq : ∀ (l : List α) (k : Nat), k ≤ l.length → (∀ j (hj : j < l.length), j < k → p l[j] = false) → (∀ h : k < l.length, p l[k] = true) → findN p l = k
  | [], k, hk, _, _ => by have : k = 0 := by simpa using hk
                          subst this; rfl
  | x :: l, 0, _, _, h => by
    have h0 : p x = true := h (by simp)
    show (if p x then 0 else findN p l + 1) = 0
    rw [if_pos h0]
  | x :: l, k + 1, hk, ha, h => by
    have h0 : p x = false := ha 0 (by simp) (by omega)
    show (if p x then 0 else findN p l + 1) = k + 1
    rw [if_neg (by simp [h0]), findN_eq l k (by simpa using hk) (fun j hj hjk => ha (j + 1) (by simpa using hj) (by omega)) (fun h' => h (by simpa using h'))]
theorem findN_spec : ∀ (l : List α), (∀ j (hj : j < l.length), j < findN p l → p l[j] = false) ∧ (∀ h : findN p l < l.length, p l[findN p l] = true)
  | [] => ⟨fun j hj => by simp at hj, fun h => by simp at h⟩
  | x :: l => by
    obtain ⟨g1, g2⟩ := findN_spec l
    by_cases h : p x
    · have e : findN p (x :: l) = 0 := by show (if _ then _ else _) = _; rw [if_pos h]
      rw [e]
      refine ⟨fun j hj hj0 => by omega, fun _ => ?_⟩
      exact h
    · have e : findN p (x :: l) = findN p l + 1 := by show (if _ then _ else _) = _; rw [if_neg h]
      refine ⟨fun j hj hj0 => ?_, fun hh => ?_⟩
      · rw [e] at hj0
        cases j with
        | zero => simpa using h
        | succ j => exact g1 j (by simpa using hj) (by omega)
      · simp only [e] at hh ⊢
        exact g2 (by simpa using hh)
/-- as an index: -1 where nothing is found -/
def findI (l : List α) : Int := if findN p l = l.length then -1 else (findN p l : Int)
theorem findI_neg (l : List α) : findI p l < 0 ↔ ∀ x ∈ l, p x = false := by
  have hle := findN_le p l
  obtain ⟨h1, h2⟩ := findN_spec p l
  unfold findI
  by_cases h : findN p l = l.length
  · rw [if_pos h]
    refine ⟨fun _ x hx => ?_, fun _ => by omega⟩
    obtain ⟨i, hi, rfl⟩ := List.getElem_of_mem hx
    exact h1 i hi (by omega)
  · rw [if_neg h]
    refine ⟨fun h' => by omega, fun h' => ?_⟩
    have h3 := h2 (by omega)
    rw [h' _ (List.getElem_mem _)] at h3
    cases h3
end
end Go.Proofs.Ytcgncmlldjblmaa
