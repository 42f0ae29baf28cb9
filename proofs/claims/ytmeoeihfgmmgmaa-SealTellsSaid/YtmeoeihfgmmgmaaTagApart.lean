/- No two lists of bytes have the same words. -/
import Derived.Test.YtmeoeihfgmmgmaaTagWords
set_option linter.unusedVariables false
namespace Go.Proofs.Ytmeoeihfgmmgmaa
open Go.RowKit
namespace Tg
theorem byteW_bit (c : UInt8) (i : Nat) (h : i < 64) : (byteW c).getLsbD i = c.toNat.testBit i := by
  unfold byteW
  rw [BitVec.getLsbD_ofNat]; simp [h]
theorem u8_high (c : UInt8) (i : Nat) (h : 8 ≤ i) : c.toNat.testBit i = false := by
  apply Nat.testBit_lt_two_pow
  have := c.toNat_lt
  have h2 : 2 ^ 8 ≤ 2 ^ i := Nat.pow_le_pow_right (by omega) h
  omega
theorem wordAt_bit (l : List UInt8) (j b : Nat) (hb : b < 64) : ∀ k, (wordAt l k j).getLsbD b = (decide (8 * j + b / 8 < k) && (l.getD (8 * j + b / 8) 0).toNat.testBit (b % 8))
  | 0 => by simp [wordAt]
  | k + 1 => by
    have ih := wordAt_bit l j b hb k
    rw [wordAt]
    by_cases e : j = k / 8
    · rw [if_pos e, BitVec.getLsbD_or, ih, BitVec.getLsbD_shiftLeft]
      by_cases h1 : 8 * j + b / 8 < k
      · have h2 : 8 * j + b / 8 < k + 1 := by omega
        have h3 : b < 8 * (k % 8) := by omega
        simp [h1, h2, h3]
      · by_cases h2 : 8 * j + b / 8 = k
        · have h4 : ¬ b < 8 * (k % 8) := by omega
          have h5 : b - 8 * (k % 8) = b % 8 := by omega
          have h6 : 8 * j + b / 8 < k + 1 := by omega
          rw [h5, byteW_bit _ _ (by omega), h2]
          simp [hb, h4]
        · have h4 : ¬ b < 8 * (k % 8) := by omega
          have h5 : 8 ≤ b - 8 * (k % 8) := by omega
          have h6 : ¬ 8 * j + b / 8 < k + 1 := by omega
          rw [byteW_bit _ _ (by omega), u8_high _ _ h5]
          simp [h1, h6]
    · rw [if_neg e, ih]
      have : (8 * j + b / 8 < k) ↔ (8 * j + b / 8 < k + 1) := by omega
      simp only [this]
theorem words_len (l : List UInt8) : (words l).length = l.length / 8 + 1 := by unfold words; simp
theorem words_at (l : List UInt8) (j : Nat) (h : j < l.length / 8 + 1) : (words l)[j]'(by rw [words_len]; exact h) = if j = l.length / 8 then wordAt l l.length j ||| (BitVec.ofNat 64 l.length <<< 56) else wordAt l l.length j := by
  unfold words; simp
theorem last_bit (l : List UInt8) (b : Nat) (hb : b < 8) : ((words l)[l.length / 8]'(by rw [words_len]; omega)).getLsbD (56 + b) = l.length.testBit b := by
  rw [words_at l _ (by omega), if_pos rfl, BitVec.getLsbD_or, wordAt_bit l _ _ (by omega), BitVec.getLsbD_shiftLeft, BitVec.getLsbD_ofNat]
  have h1 : ¬ 8 * (l.length / 8) + (56 + b) / 8 < l.length := by omega
  have h2 : 56 + b < 64 := by omega
  have h3 : ¬ 56 + b < 56 := by omega
  have h4 : 56 + b - 56 = b := by omega
  have h5 : b < 64 := by omega
  rw [h4]
  simp [h1, h2, h5]
theorem byte_bit (l : List UInt8) (p i : Nat) (hp : p < l.length) (hi : i < 8) : ((words l)[p / 8]'(by rw [words_len]; omega)).getLsbD (8 * (p % 8) + i) = (l.getD p 0).toNat.testBit i := by
  have e1 : 8 * (p / 8) + (8 * (p % 8) + i) / 8 = p := by omega
  have e2 : (8 * (p % 8) + i) % 8 = i := by omega
  have hw : (wordAt l l.length (p / 8)).getLsbD (8 * (p % 8) + i) = (l.getD p 0).toNat.testBit i := by
    rw [wordAt_bit l _ _ (by omega), e1, e2]; simp [hp]
  rw [words_at l _ (by omega)]
  by_cases e : p / 8 = l.length / 8
  · rw [if_pos e, BitVec.getLsbD_or, hw, BitVec.getLsbD_shiftLeft]
    have h3 : 8 * (p % 8) + i < 56 := by omega
    simp [h3]
  · rw [if_neg e, hw]
theorem words_inj (l l' : List UInt8) (h : words l = words l') : l = l' := by
  have hl := congrArg List.length h
  rw [words_len, words_len] at hl
  have h8 : l.length / 8 = l'.length / 8 := by omega
  have hm : l.length % 2 ^ 3 = l'.length % 2 ^ 3 := by
    apply Nat.eq_of_testBit_eq
    intro i
    rw [Nat.testBit_mod_two_pow, Nat.testBit_mod_two_pow]
    by_cases hi : i < 3
    · have a := last_bit l i (by omega)
      have b := last_bit l' i (by omega)
      have c : (words l)[l.length / 8]'(by rw [words_len]; omega) = (words l')[l'.length / 8]'(by rw [words_len]; omega) := by
        have : (words l)[l.length / 8]? = (words l')[l'.length / 8]? := by rw [h, h8]
        rw [List.getElem?_eq_getElem (by rw [words_len]; omega), List.getElem?_eq_getElem (by rw [words_len]; omega)] at this
        exact Option.some.inj this
      rw [c] at a
      rw [← a, b]
    · simp [hi]
  have hn : l.length = l'.length := by omega
  apply List.ext_getElem hn
  intro p h1 h2
  have key : ∀ i, i < 8 → (l.getD p 0).toNat.testBit i = (l'.getD p 0).toNat.testBit i := fun i hi => by
    rw [← byte_bit l p i h1 hi, ← byte_bit l' p i h2 hi]
    congr 1
    have : (words l)[p / 8]? = (words l')[p / 8]? := by rw [h]
    rw [List.getElem?_eq_getElem (by rw [words_len]; omega), List.getElem?_eq_getElem (by rw [words_len]; omega)] at this
    exact Option.some.inj this
  have : (l.getD p 0).toNat = (l'.getD p 0).toNat := by
    apply Nat.eq_of_testBit_eq
    intro i
    by_cases hi : i < 8
    · exact key i hi
    · rw [u8_high _ _ (by omega), u8_high _ _ (by omega)]
  rw [List.getD_eq_getElem?_getD, List.getD_eq_getElem?_getD, List.getElem?_eq_getElem h1, List.getElem?_eq_getElem h2] at this
  exact UInt8.toNat_inj.mp this
theorem words_eq (s t : ByteArray) : (words s.data.toList = words t.data.toList) ↔ s = t := by
  constructor
  · intro h
    have := words_inj _ _ h
    cases s; cases t; simp at this; subst this; rfl
  · rintro rfl; rfl
/-- a slice of words at a place of its own -/
def Wd (w : World) (v : Value) (l : List W64) : Prop :=
  ∃ g, v = .slice (some ⟨g, 0, none⟩) l.length l.length ∧ g < w.heap.size ∧ l.length ≤ 140737488355328 ∧ (∀ i (h : i < l.length), w.cell? ⟨g, i, none⟩ = some (.int .u64 (wi l[i])))
theorem Wd.below {w w' : World} {v : Value} {l : List W64} (h : Wd w v l) (hb : Below w.heap.size w w') : Wd w' v l := by
  obtain ⟨g, rfl, h1, h2, h3⟩ := h
  exact ⟨g, rfl, kl hb h1, h2, fun i hi => (hb.cell (p := ⟨g, i, none⟩) h1).trans (h3 i hi)⟩
theorem Wd.of_q {l : List UInt8} {w w' : World} {e : Ending} (h : WordsQ l w e w') : ∃ v, e = .returned v ∧ Wd w' v (words l) ∧ Below w.heap.size w w' := by
  obtain ⟨g, N, rfl, h1, h2, rfl, h3, h4, h5⟩ := h
  refine ⟨_, rfl, ⟨g, rfl, h2, h3, fun i hi => ?_⟩, h5⟩
  rw [h4 i hi, List.getD_eq_getElem?_getD, List.getElem?_eq_getElem hi]; rfl
theorem wi_inj {a b : W64} (h : wi a = wi b) : a = b := by unfold wi at h; exact BitVec.eq_of_toNat_eq (by omega)
end Tg
end Go.Proofs.Ytmeoeihfgmmgmaa
