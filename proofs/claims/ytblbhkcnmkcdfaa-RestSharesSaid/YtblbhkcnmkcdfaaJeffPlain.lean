/- Jefferson's way: the plain law: a heap; one by one to the best. -/
import Derived.Test.YtblbhkcnmkcdfaaSharePlain
set_option linter.unusedSimpArgs false
set_option linter.unusedVariables false
namespace Go.Proofs.Ytblbhkcnmkcdfaa
namespace Sh
open Stb
/-- x goes before y: of the greater weight by one more than it has, of those alike the first one -/
def lessP (ws : List Int) (hs : Nat → Int) (x y : Int) : Prop := wv ws y.toNat * (hs x.toNat + 1) < wv ws x.toNat * (hs y.toNat + 1) ∨ (wv ws y.toNat * (hs x.toNat + 1) = wv ws x.toNat * (hs y.toNat + 1) ∧ x < y)
instance (ws : List Int) (hs : Nat → Int) (x y : Int) : Decidable (lessP ws hs x y) := by unfold lessP; exact inferInstance
/-- on numbers that stand for somebody -/
theorem lessP_tr {ws : List Int} {hs : Nat → Int} (hw : ∀ i, 0 ≤ wv ws i) (hh : ∀ i, 0 ≤ hs i) {x y z : Int} (h1 : lessP ws hs x y) (h2 : lessP ws hs y z) : lessP ws hs x z := by
  unfold lessP at *
  have a0 := hw x.toNat; have b0 := hw y.toNat; have c0 := hw z.toNat
  have a1 := hh x.toNat; have b1 := hh y.toNat; have c1 := hh z.toNat
  generalize wv ws x.toNat = a at *; generalize wv ws y.toNat = b at *; generalize wv ws z.toNat = c at *
  generalize hp : hs x.toNat + 1 = p at *; generalize hq : hs y.toNat + 1 = q at *; generalize hr : hs z.toNat + 1 = r at *
  -- b p ≤ a q, c q ≤ b r  gives  c p q ≤ b p r ≤ a q r
  have p1 : 0 < p := by omega
  have q1 : 0 < q := by omega
  have r1 : 0 < r := by omega
  have e1 : c * p * q = (c * q) * p := by rw [Int.mul_assoc, Int.mul_comm p q, ← Int.mul_assoc]
  have e2 : (b * p) * r = (b * r) * p := by rw [Int.mul_assoc, Int.mul_comm p r, ← Int.mul_assoc]
  have e3 : (a * q) * r = a * r * q := by rw [Int.mul_assoc, Int.mul_comm q r, ← Int.mul_assoc]
  rcases h1 with h1 | ⟨h1, g1⟩ <;> rcases h2 with h2 | ⟨h2, g2⟩
  · left
    have k1 := Int.mul_lt_mul_of_pos_right h2 p1
    have k2 := Int.mul_lt_mul_of_pos_right h1 r1
    have : c * p * q < a * r * q := by omega
    exact Int.lt_of_mul_lt_mul_right this (by omega)
  · left
    have k1 := congrArg (· * p) h2
    have k2 := Int.mul_lt_mul_of_pos_right h1 r1
    have : c * p * q < a * r * q := by omega
    exact Int.lt_of_mul_lt_mul_right this (by omega)
  · left
    have k1 := Int.mul_lt_mul_of_pos_right h2 p1
    have k2 := congrArg (· * r) h1
    have : c * p * q < a * r * q := by omega
    exact Int.lt_of_mul_lt_mul_right this (by omega)
  · right
    have k1 := congrArg (· * p) h2
    have k2 := congrArg (· * r) h1
    have : c * p * q = a * r * q := by omega
    exact ⟨Int.eq_of_mul_eq_mul_right (by omega) this, by omega⟩
theorem lessP_ir {ws : List Int} {hs : Nat → Int} {x : Int} : ¬ lessP ws hs x x := by unfold lessP; omega
theorem lessP_tot {ws : List Int} {hs : Nat → Int} {x y : Int} (h : x ≠ y) : lessP ws hs x y ∨ lessP ws hs y x := by unfold lessP; omega
/-! the heap -/
def HOrd (r : Int → Int → Prop) (d : Arr) (n : Nat) : Prop := ∀ i, 0 < i → i < n → ¬ r (d i) (d ((i - 1) / 2))
/-- but for place j, which may go before the one above it -/
structure UpI (r : Int → Int → Prop) (d : Arr) (n j : Nat) : Prop where
  rest : ∀ i, 0 < i → i < n → i ≠ j → ¬ r (d i) (d ((i - 1) / 2))
  kids : ∀ i, 0 < i → i < n → (i - 1) / 2 = j → 0 < j → ¬ r (d i) (d ((j - 1) / 2))
/-- but for place j, which may go behind those below it -/
structure DnI (r : Int → Int → Prop) (d : Arr) (n j : Nat) : Prop where
  rest : ∀ i, 0 < i → i < n → (i - 1) / 2 ≠ j → ¬ r (d i) (d ((i - 1) / 2))
  kids : ∀ i, 0 < i → i < n → (i - 1) / 2 = j → 0 < j → ¬ r (d i) (d ((j - 1) / 2))
structure Wo (r : Int → Int → Prop) : Prop where
  tr : ∀ {x y z}, r x y → r y z → r x z
  ir : ∀ {x}, ¬ r x x
  tot : ∀ {x y}, x ≠ y → r x y ∨ r y x
/-- not before: transitive too -/
theorem Wo.ntr {r : Int → Int → Prop} (h : Wo r) {x y z : Int} (h1 : ¬ r x y) (h2 : ¬ r y z) : ¬ r x z := fun h3 => by
  by_cases c : x = y
  · subst c; exact h2 h3
  · rcases h.tot c with g | g
    · exact h1 g
    · exact h2 (h.tr g h3)
theorem Wo.as {r : Int → Int → Prop} (h : Wo r) {x y : Int} (h1 : r x y) : ¬ r y x := fun h2 => h.ir (h.tr h1 h2)
theorem UpI.done {r : Int → Int → Prop} {d : Arr} {n j : Nat} (h : UpI r d n j) (hj : j = 0 ∨ ¬ r (d j) (d ((j - 1) / 2))) : HOrd r d n := fun i h1 h2 => by
  by_cases c : i = j
  · subst c
    rcases hj with hj | hj
    · omega
    · exact hj
  · exact h.rest i h1 h2 c
theorem UpI.step {r : Int → Int → Prop} (hw : Wo r) {d : Arr} {n j : Nat} (h : UpI r d n j) (hj : 0 < j) (hn : j < n) (hr : r (d j) (d ((j - 1) / 2))) : UpI r (swp d ((j - 1) / 2) j) n ((j - 1) / 2) := by
  have hp : (j - 1) / 2 < j := by omega
  refine ⟨fun i h1 h2 h3 => ?_, fun i h1 h2 h3 h4 => ?_⟩
  · unfold swp
    rw [if_neg h3]
    by_cases c1 : i = j
    · subst c1
      rw [if_pos rfl, if_pos rfl]
      exact hw.as hr
    · rw [if_neg c1]
      by_cases c2 : (i - 1) / 2 = (j - 1) / 2
      · rw [if_pos c2]
        have := h.rest i h1 h2 c1
        rw [c2] at this
        exact hw.ntr this (hw.as hr)
      · rw [if_neg c2]
        by_cases c3 : (i - 1) / 2 = j
        · rw [if_pos c3]
          exact h.kids i h1 h2 c3 hj
        · rw [if_neg c3]
          exact h.rest i h1 h2 c1
  · have hq : ((j - 1) / 2 - 1) / 2 < (j - 1) / 2 := by omega
    have hqr := h.rest ((j - 1) / 2) h4 (by omega) (by omega)
    unfold swp
    rw [if_neg (show ((j - 1) / 2 - 1) / 2 ≠ (j - 1) / 2 by omega), if_neg (show ((j - 1) / 2 - 1) / 2 ≠ j by omega), if_neg (show i ≠ (j - 1) / 2 by omega)]
    by_cases c1 : i = j
    · rw [if_pos c1]
      exact hqr
    · rw [if_neg c1]
      have := h.rest i h1 h2 c1
      rw [h3] at this
      exact hw.ntr this hqr
theorem DnI.done {r : Int → Int → Prop} {d : Arr} {n j : Nat} (h : DnI r d n j) (hj : ∀ i, 0 < i → i < n → (i - 1) / 2 = j → ¬ r (d i) (d j)) : HOrd r d n := fun i h1 h2 => by
  by_cases c : (i - 1) / 2 = j
  · rw [c]; exact hj i h1 h2 c
  · exact h.rest i h1 h2 c
theorem DnI.step {r : Int → Int → Prop} (hw : Wo r) {d : Arr} {n j c : Nat} (h : DnI r d n j) (hc : 0 < c) (hn : c < n) (hp : (c - 1) / 2 = j) (hr : r (d c) (d j)) (hmin : ∀ i, 0 < i → i < n → (i - 1) / 2 = j → ¬ r (d i) (d c)) : DnI r (swp d j c) n c := by
  refine ⟨fun i h1 h2 h3 => ?_, fun i h1 h2 h3 h4 => ?_⟩
  · unfold swp
    by_cases c0 : i = j
    · -- place j holds what was at c; above it
      subst c0
      rw [if_pos rfl, if_neg (show (i - 1) / 2 ≠ i by omega), if_neg h3]
      exact h.kids c hc hn hp h1
    · rw [if_neg c0]
      by_cases c1 : i = c
      · subst c1
        rw [if_pos rfl, if_pos hp]
        exact hw.as hr
      · rw [if_neg c1]
        by_cases c2 : (i - 1) / 2 = j
        · rw [if_pos c2]
          exact hmin i h1 h2 c2
        · rw [if_neg c2, if_neg h3]
          exact h.rest i h1 h2 c2
  · unfold swp
    rw [if_neg (show i ≠ j by omega), if_neg (show i ≠ c by omega), if_pos hp]
    have := h.rest i h1 h2 (by omega)
    rw [h3] at this
    exact this
theorem HOrd.root {r : Int → Int → Prop} (hw : Wo r) {d : Arr} {n : Nat} (h : HOrd r d n) : ∀ i, i < n → ¬ r (d i) (d 0)
  | 0, _ => hw.ir
  | i + 1, hi => by
    have h1 := h (i + 1) (by omega) hi
    have h2 := HOrd.root hw h ((i + 1 - 1) / 2) (by omega)
    exact hw.ntr h1 h2
  termination_by i => i
/-- one more at the end -/
theorem HOrd.push {r : Int → Int → Prop} {d : Arr} {n : Nat} (h : HOrd r d n) : UpI r d (n + 1) n := ⟨fun i h1 h2 h3 => h i h1 (by omega), fun i h1 h2 h3 h4 => by omega⟩
/-! one by one -/
def best (ws : List Int) (hs : Nat → Int) : Nat → Nat
  | 0 => 0
  | k + 1 => if wv ws (k + 1) * (hs (best ws hs k) + 1) > wv ws (best ws hs k) * (hs (k + 1) + 1) then k + 1 else best ws hs k
theorem best_le (ws : List Int) (hs : Nat → Int) : ∀ k, best ws hs k ≤ k
  | 0 => Nat.le_refl _
  | k + 1 => by
    have := best_le ws hs k
    simp only [best]
    split <;> omega
theorem best_is {ws : List Int} {hs : Nat → Int} (hw : ∀ i, 0 ≤ wv ws i) (hh : ∀ i, 0 ≤ hs i) : ∀ k i, i ≤ k → i ≠ best ws hs k → lessP ws hs (best ws hs k) i
  | 0, i, h1, h2 => by simp [best] at h2; omega
  | k + 1, i, h1, h2 => by
    have ih := best_is hw hh k
    have hl := best_le ws hs k
    simp only [best] at h2 ⊢
    by_cases c : wv ws (k + 1) * (hs (best ws hs k) + 1) > wv ws (best ws hs k) * (hs (k + 1) + 1)
    · rw [if_pos c] at h2 ⊢
      have hb : lessP ws hs ((k + 1 : Nat) : Int) (best ws hs k) := by unfold lessP; simp only [Int.toNat_natCast]; omega
      by_cases c2 : i = best ws hs k
      · subst c2; exact hb
      · exact lessP_tr hw hh hb (ih i (by omega) c2)
    · rw [if_neg c] at h2 ⊢
      by_cases c2 : i = k + 1
      · subst c2
        unfold lessP; simp only [Int.toNat_natCast]; omega
      · exact ih i (by omega) h2
/-- after so many -/
def jf (ws : List Int) (n : Nat) : Nat → Nat → Int
  | 0, _ => 0
  | t + 1, i => if i = best ws (jf ws n t) (n - 1) then jf ws n t i + 1 else jf ws n t i
theorem jf_bd (ws : List Int) (n : Nat) : ∀ t i, 0 ≤ jf ws n t i ∧ jf ws n t i ≤ t
  | 0, i => ⟨Int.le_refl _, Int.le_refl _⟩
  | t + 1, i => by
    have := jf_bd ws n t i
    simp only [jf]
    split <;> omega
/-- who stands at the root is the best -/
theorem root_best {ws : List Int} {n : Nat} {d : Arr} {hs : Nat → Int} (hn : 0 < n) (hw : ∀ i, 0 ≤ wv ws i) (hh : ∀ i, 0 ≤ hs i) (hp : Pm 0 n (fun k => (k : Int)) d) (hr : ∀ i, i < n → ¬ lessP ws hs (d i) (d 0)) : d 0 = best ws hs (n - 1) := by
  have hv : ∀ i, i < n → 0 ≤ d i ∧ d i < n := fun i hi => hp.all (fun x => 0 ≤ x ∧ x < n) (fun k _ hk => ⟨by omega, by omega⟩) i (Nat.zero_le _) hi
  obtain ⟨h0, h1⟩ := hv 0 hn
  have hl := best_le ws hs (n - 1)
  by_cases c : (d 0).toNat = best ws hs (n - 1)
  · omega
  · exfalso
    have hb := best_is hw hh (n - 1) (d 0).toNat (by omega) c
    rw [show ((d 0).toNat : Int) = d 0 by omega] at hb
    obtain ⟨p, hp1, hp2⟩ := stands hp (best ws hs (n - 1)) (by omega)
    rw [← hp2] at hb
    exact hr p hp1 hb
end Sh
end Go.Proofs.Ytblbhkcnmkcdfaa
