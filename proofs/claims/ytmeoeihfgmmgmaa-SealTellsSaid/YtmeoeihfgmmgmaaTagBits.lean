/- Bits as the document counts them: plain facts. -/
import Derived.Test.YtmeoeihfgmmgmaaTagApart
set_option linter.unusedVariables false
namespace Go.Proofs.Ytmeoeihfgmmgmaa
open Go.RowKit
namespace Tg
/-- the lower i bits of an exclusive or -/
def xo (A B : W64) (i : Nat) : Nat := (A ^^^ B).toNat % 2 ^ i
def dn (A : W64) (i : Nat) : Nat := A.toNat / 2 ^ i
def up (i : Nat) : Nat := 2 ^ i % 18446744073709551616
theorem xo_bd (A B : W64) (i : Nat) : xo A B i ≤ 18446744073709551615 := by
  have h := (A ^^^ B).isLt
  have := Nat.mod_le (A ^^^ B).toNat (2 ^ i)
  unfold xo; omega
theorem dn_bd (A : W64) (i : Nat) : dn A i ≤ 18446744073709551615 := by
  have h := A.isLt
  have := Nat.div_le_self A.toNat (2 ^ i)
  unfold dn; omega
theorem dn_succ (A : W64) (i : Nat) : dn A (i + 1) = dn A i / 2 := by unfold dn; rw [Nat.pow_succ, Nat.div_div_eq_div_mul]
theorem up_succ (i : Nat) : up (i + 1) = (up i * 2) % 18446744073709551616 := by unfold up; rw [Nat.pow_succ]; omega
theorem up_lt {i : Nat} (h : i < 64) : up i = 2 ^ i := by
  unfold up
  have : 2 ^ i < 2 ^ 64 := Nat.pow_lt_pow_right (by omega) h
  rw [Nat.mod_eq_of_lt (by omega)]
theorem xo_bit (A B : W64) (i : Nat) : (A ^^^ B).toNat / 2 ^ i % 2 = (dn A i + dn B i) % 2 := by
  have h := Nat.testBit_xor A.toNat B.toNat i
  rw [← BitVec.toNat_xor] at h
  unfold dn
  simp only [Nat.testBit_eq_decide_div_mod_eq] at h
  generalize (A ^^^ B).toNat / 2 ^ i = x at *
  generalize A.toNat / 2 ^ i = y at *
  generalize B.toNat / 2 ^ i = z at *
  rcases (show x % 2 = 0 ∨ x % 2 = 1 by omega) with h1 | h1 <;> rcases (show y % 2 = 0 ∨ y % 2 = 1 by omega) with h2 | h2 <;> rcases (show z % 2 = 0 ∨ z % 2 = 1 by omega) with h3 | h3 <;> simp [h1, h2, h3] at h <;> omega
theorem xo_succ (A B : W64) (i : Nat) (hi : i < 64) : xo A B (i + 1) = if dn A i % 2 = dn B i % 2 then xo A B i else xo A B i + up i := by
  have hb := xo_bit A B i
  have h := Nat.mod_pow_succ (b := 2) (k := i) (x := (A ^^^ B).toNat)
  rw [up_lt hi]
  unfold xo
  rw [h, hb]
  by_cases g : dn A i % 2 = dn B i % 2
  · rw [if_pos g, show (dn A i + dn B i) % 2 = 0 by omega]; simp
  · rw [if_neg g, show (dn A i + dn B i) % 2 = 1 by omega]; simp
theorem xo_all (A B : W64) : ((xo A B 64 : Nat) : Int) = wi (A ^^^ B) := by
  unfold xo wi
  rw [Nat.mod_eq_of_lt (A ^^^ B).isLt]
theorem rl_succ (x : W64) (k : Nat) (h : k + 1 < 64) : (x.rotateLeft k).rotateLeft 1 = x.rotateLeft (k + 1) := by
  apply BitVec.eq_of_getLsbD_eq
  intro i hi
  simp only [BitVec.getLsbD_rotateLeft, Nat.mod_eq_of_lt (show k < 64 by omega), Nat.mod_eq_of_lt (show k + 1 < 64 by omega), Nat.mod_eq_of_lt (show 1 < 64 by omega)]
  by_cases h0 : i = 0
  · subst h0
    have e1 : ¬ 64 - 1 + 0 < k := by omega
    simp [e1]
  · have e0 : ¬ i < 1 := by omega
    by_cases h1 : i - 1 < k
    · have e1 : i < k + 1 := by omega
      have e2 : 64 - k + (i - 1) = 64 - (k + 1) + i := by omega
      simp [e0, h1, e1, e2, hi, h0]
    · have e1 : ¬ i < k + 1 := by omega
      have e2 : i - 1 - k = i - (k + 1) := by omega
      have e3 : i - 1 < 64 := by omega
      simp [e0, h1, e1, e2, hi, e3, h0]
theorem rl_one (x : W64) : (x.rotateLeft 1).toNat = 2 * x.toNat % 18446744073709551616 + x.toNat / 9223372036854775808 := by
  rw [← rotl_w x 1 (by omega), BitVec.toNat_or, BitVec.toNat_shiftLeft, BitVec.toNat_ushiftRight, Nat.shiftLeft_eq, Nat.shiftRight_eq_div_pow]
  have h := x.isLt
  generalize x.toNat = n at *
  have e : n * 2 ^ 1 % 2 ^ 64 = 2 ^ 1 * (n % 9223372036854775808) := by omega
  have hb : n / 2 ^ (64 - 1) < 2 ^ 1 := by omega
  rw [e, ← Nat.two_pow_add_eq_or_of_lt hb]
  omega
theorem rl_zero (x : W64) : x.rotateLeft 0 = x := by
  apply BitVec.eq_of_getLsbD_eq
  intro i hi
  simp only [BitVec.getLsbD_rotateLeft]; simp [hi]
/-- bytes upward from a place, then t -/
def U (l : List UInt8) (t : Nat) : Nat → Nat → Nat
  | _, 0 => t
  | p, m + 1 => 256 * U l t (p + 1) m + (l.getD p 0).toNat
theorem U_lt (l : List UInt8) (t : Nat) (ht : t < 256) : ∀ m p, U l t p m < 2 ^ (8 * (m + 1))
  | 0, p => by show t < _; simpa using ht
  | m + 1, p => by
    have ih := U_lt l t ht m (p + 1)
    have := (l.getD p 0).toNat_lt
    rw [show 8 * (m + 1 + 1) = 8 * (m + 1) + 8 by omega, Nat.pow_add, U]
    omega
theorem U_lt0 (l : List UInt8) : ∀ m p, U l 0 p m < 2 ^ (8 * m)
  | 0, p => by show 0 < _; simp
  | m + 1, p => by
    have ih := U_lt0 l m (p + 1)
    have := (l.getD p 0).toNat_lt
    rw [show 8 * (m + 1) = 8 * m + 8 by omega, Nat.pow_add, U]
    omega
theorem U_bit (l : List UInt8) (t : Nat) : ∀ m p b, (U l t p m).testBit b = if b < 8 * m then (l.getD (p + b / 8) 0).toNat.testBit (b % 8) else t.testBit (b - 8 * m)
  | 0, p, b => by rw [if_neg (by omega)]; rfl
  | m + 1, p, b => by
    have hc : (l.getD p 0).toNat < 2 ^ 8 := (l.getD p 0).toNat_lt
    rw [U, show (256 : Nat) = 2 ^ 8 by rfl, Nat.testBit_two_pow_mul_add _ hc]
    by_cases h : b < 8
    · rw [if_pos h, if_pos (by omega), show b / 8 = 0 by omega, show b % 8 = b by omega, Nat.add_zero]
    · rw [if_neg h, U_bit l t m (p + 1) (b - 8)]
      by_cases g : b < 8 * (m + 1)
      · rw [if_pos (by omega), if_pos g, show p + 1 + (b - 8) / 8 = p + b / 8 by omega, show (b - 8) % 8 = b % 8 by omega]
      · rw [if_neg (by omega), if_neg g, show b - 8 - 8 * m = b - 8 * (m + 1) by omega]
theorem wi_of (x : W64) (n : Nat) (hn : n < 2 ^ 64) (h : ∀ b, b < 64 → x.getLsbD b = n.testBit b) : wi x = (n : Int) := by
  unfold wi
  congr 1
  apply Nat.eq_of_testBit_eq
  intro b
  by_cases hb : b < 64
  · exact h b hb
  · rw [Nat.testBit_lt_two_pow (Nat.lt_of_lt_of_le hn (Nat.pow_le_pow_right (by omega) (by omega)))]
    exact Nat.testBit_lt_two_pow (Nat.lt_of_lt_of_le x.isLt (Nat.pow_le_pow_right (by omega) (by omega)))
theorem word_whole (l : List UInt8) (j : Nat) (h : 8 * j + 8 ≤ l.length) : ∃ hj : j < (words l).length, wi ((words l)[j]) = (U l 0 (8 * j) 8 : Nat) := by
  refine ⟨by rw [words_len]; omega, ?_⟩
  refine wi_of _ _ (U_lt0 l 8 _) (fun b hb => ?_)
  rw [words_at l j (by omega), if_neg (by omega), wordAt_bit l j b hb, U_bit, if_pos (by omega)]
  have : 8 * j + b / 8 < l.length := by omega
  simp [this]
theorem word_last (l : List UInt8) : ∃ hj : l.length / 8 < (words l).length, wi ((words l)[l.length / 8]) = (U l (l.length % 256) (8 * (l.length / 8)) 7 : Nat) := by
  refine ⟨by rw [words_len]; omega, ?_⟩
  refine wi_of _ _ (U_lt l _ (by omega) 7 _) (fun b hb => ?_)
  rw [words_at l _ (by omega), if_pos rfl, BitVec.getLsbD_or, wordAt_bit l _ b hb, U_bit, BitVec.getLsbD_shiftLeft, BitVec.getLsbD_ofNat]
  by_cases h : b < 8 * 7
  · rw [if_pos h]
    by_cases g : 8 * (l.length / 8) + b / 8 < l.length
    · simp [g, show b < 56 by omega]
    · rw [List.getD_eq_getElem?_getD, List.getElem?_eq_none (by omega)]
      simp [g, show b < 56 by omega]
  · have e1 : ¬ 8 * (l.length / 8) + b / 8 < l.length := by omega
    have e2 : ¬ b < 56 := by omega
    have e3 : b - 56 < 64 := by omega
    have e4 : (l.length % 2 ^ 8).testBit (b - 56) = l.length.testBit (b - 56) := by
      rw [Nat.testBit_mod_two_pow]; simp; omega
    rw [if_neg h, show 8 * 7 = 56 by rfl, show (256 : Nat) = 2 ^ 8 by rfl, e4]
    simp [e1, e2, e3, hb]
end Tg
end Go.Proofs.Ytmeoeihfgmmgmaa
