/- Joined by shake.py: TagApart TagBits TagOwn TagEq TagLaws TagRef TagLaws2 TagRef2 TagRef3 TagRef4 TagRef5. -/
import Derived.Test.YtdfdjampodkpgaaDoorJTag
import Derived.Maps.AppendAt
import Derived.OwnWalk
import Derived.Deep.LoopGhost
import Derived.ChangeKeysEq
import Derived.Laws.StructEq
import Derived.Deep.RegionHeld3
import Derived.Deep.CutRange
import Derived.Deep.RegionWith
set_option linter.unusedSimpArgs false
set_option linter.unusedVariables false

/-! TagApart -/
section
/- No two lists of bytes have the same words. -/
set_option linter.unusedSimpArgs false
set_option linter.unusedVariables false
namespace Go.Proofs.YtdfdjampodkpgaaDoor
open Go.RowKit
namespace Tg
theorem byteW_bit (c : UInt8) (i : Nat) (h : i < 64) : (byteW c).getLsbD i = c.toNat.testBit i := by
  unfold byteW
  rw [BitVec.getLsbD_ofNat]; simp [h]
theorem u8_high (c : UInt8) (i : Nat) (h : 8 ≤ i) : c.toNat.testBit i = false := by
  apply Nat.testBit_lt_two_pow
  have := c.toNat_lt
  have h2 : 2 ^ 8 ≤ 2 ^ i := Nat.pow_le_pow_right (by omega) h
  omega
theorem wordAt_bit (l : List UInt8) (j b : Nat) (hb : b < 64) : ∀ k, (wordAt l k j).getLsbD b = (decide (8 * j + b / 8 < k) && (l.getD (8 * j + b / 8) 0).toNat.testBit (b % 8))
  | 0 => by simp [wordAt]
  | k + 1 => by
    have ih := wordAt_bit l j b hb k
    rw [wordAt]
    by_cases e : j = k / 8
    · rw [if_pos e, BitVec.getLsbD_or, ih, BitVec.getLsbD_shiftLeft]
      by_cases h1 : 8 * j + b / 8 < k
      · have h2 : 8 * j + b / 8 < k + 1 := by omega
        have h3 : b < 8 * (k % 8) := by omega
        simp [h1, h2, h3]
      · by_cases h2 : 8 * j + b / 8 = k
        · have h4 : ¬ b < 8 * (k % 8) := by omega
          have h5 : b - 8 * (k % 8) = b % 8 := by omega
          have h6 : 8 * j + b / 8 < k + 1 := by omega
          rw [h5, byteW_bit _ _ (by omega), h2]
          simp [hb, h4]
        · have h4 : ¬ b < 8 * (k % 8) := by omega
          have h5 : 8 ≤ b - 8 * (k % 8) := by omega
          have h6 : ¬ 8 * j + b / 8 < k + 1 := by omega
          rw [byteW_bit _ _ (by omega), u8_high _ _ h5]
          simp [h1, h6]
    · rw [if_neg e, ih]
      have : (8 * j + b / 8 < k) ↔ (8 * j + b / 8 < k + 1) := by omega
      simp only [this]
theorem words_len (l : List UInt8) : (words l).length = l.length / 8 + 1 := by unfold words; simp
theorem words_at (l : List UInt8) (j : Nat) (h : j < l.length / 8 + 1) : (words l)[j]'(by rw [words_len]; exact h) = if j = l.length / 8 then wordAt l l.length j ||| (BitVec.ofNat 64 l.length <<< 56) else wordAt l l.length j := by
  unfold words; simp
theorem last_bit (l : List UInt8) (b : Nat) (hb : b < 8) : ((words l)[l.length / 8]'(by rw [words_len]; omega)).getLsbD (56 + b) = l.length.testBit b := by
  rw [words_at l _ (by omega), if_pos rfl, BitVec.getLsbD_or, wordAt_bit l _ _ (by omega), BitVec.getLsbD_shiftLeft, BitVec.getLsbD_ofNat]
  have h1 : ¬ 8 * (l.length / 8) + (56 + b) / 8 < l.length := by omega
  have h2 : 56 + b < 64 := by omega
  have h3 : ¬ 56 + b < 56 := by omega
  have h4 : 56 + b - 56 = b := by omega
  have h5 : b < 64 := by omega
  rw [h4]
  simp [h1, h2, h5]
theorem byte_bit (l : List UInt8) (p i : Nat) (hp : p < l.length) (hi : i < 8) : ((words l)[p / 8]'(by rw [words_len]; omega)).getLsbD (8 * (p % 8) + i) = (l.getD p 0).toNat.testBit i := by
  have e1 : 8 * (p / 8) + (8 * (p % 8) + i) / 8 = p := by omega
  have e2 : (8 * (p % 8) + i) % 8 = i := by omega
  have hw : (wordAt l l.length (p / 8)).getLsbD (8 * (p % 8) + i) = (l.getD p 0).toNat.testBit i := by
    rw [wordAt_bit l _ _ (by omega), e1, e2]; simp [hp]
  rw [words_at l _ (by omega)]
  by_cases e : p / 8 = l.length / 8
  · rw [if_pos e, BitVec.getLsbD_or, hw, BitVec.getLsbD_shiftLeft]
    have h3 : 8 * (p % 8) + i < 56 := by omega
    simp [h3]
  · rw [if_neg e, hw]
theorem words_inj (l l' : List UInt8) (h : words l = words l') : l = l' := by
  have hl := congrArg List.length h
  rw [words_len, words_len] at hl
  have h8 : l.length / 8 = l'.length / 8 := by omega
  have hm : l.length % 2 ^ 3 = l'.length % 2 ^ 3 := by
    apply Nat.eq_of_testBit_eq
    intro i
    rw [Nat.testBit_mod_two_pow, Nat.testBit_mod_two_pow]
    by_cases hi : i < 3
    · have a := last_bit l i (by omega)
      have b := last_bit l' i (by omega)
      have c : (words l)[l.length / 8]'(by rw [words_len]; omega) = (words l')[l'.length / 8]'(by rw [words_len]; omega) := by
        have : (words l)[l.length / 8]? = (words l')[l'.length / 8]? := by rw [h, h8]
        rw [List.getElem?_eq_getElem (by rw [words_len]; omega), List.getElem?_eq_getElem (by rw [words_len]; omega)] at this
        exact Option.some.inj this
      rw [c] at a
      rw [← a, b]
    · simp [hi]
  have hn : l.length = l'.length := by omega
  apply List.ext_getElem hn
  intro p h1 h2
  have key : ∀ i, i < 8 → (l.getD p 0).toNat.testBit i = (l'.getD p 0).toNat.testBit i := fun i hi => by
    rw [← byte_bit l p i h1 hi, ← byte_bit l' p i h2 hi]
    congr 1
    have : (words l)[p / 8]? = (words l')[p / 8]? := by rw [h]
    rw [List.getElem?_eq_getElem (by rw [words_len]; omega), List.getElem?_eq_getElem (by rw [words_len]; omega)] at this
    exact Option.some.inj this
  have : (l.getD p 0).toNat = (l'.getD p 0).toNat := by
    apply Nat.eq_of_testBit_eq
    intro i
    by_cases hi : i < 8
    · exact key i hi
    · rw [u8_high _ _ (by omega), u8_high _ _ (by omega)]
  rw [List.getD_eq_getElem?_getD, List.getD_eq_getElem?_getD, List.getElem?_eq_getElem h1, List.getElem?_eq_getElem h2] at this
  exact UInt8.toNat_inj.mp this
theorem words_eq (s t : ByteArray) : (words s.data.toList = words t.data.toList) ↔ s = t := by
  constructor
  · intro h
    have := words_inj _ _ h
    cases s; cases t; simp at this; subst this; rfl
  · rintro rfl; rfl
/-- a slice of words at a place of its own -/
def Wd (w : World) (v : Value) (l : List W64) : Prop :=
  ∃ g, v = .slice (some ⟨g, 0, none⟩) l.length l.length ∧ g < w.heap.size ∧ l.length ≤ 140737488355328 ∧ (∀ i (h : i < l.length), w.cell? ⟨g, i, none⟩ = some (.int .u64 (wi l[i])))
theorem Wd.below {w w' : World} {v : Value} {l : List W64} (h : Wd w v l) (hb : Below w.heap.size w w') : Wd w' v l := by
  obtain ⟨g, rfl, h1, h2, h3⟩ := h
  exact ⟨g, rfl, kl hb h1, h2, fun i hi => (hb.cell (p := ⟨g, i, none⟩) h1).trans (h3 i hi)⟩
theorem Wd.of_q {l : List UInt8} {w w' : World} {e : Ending} (h : WordsQ l w e w') : ∃ v, e = .returned v ∧ Wd w' v (words l) ∧ Below w.heap.size w w' := by
  obtain ⟨g, N, rfl, h1, h2, rfl, h3, h4, h5⟩ := h
  refine ⟨_, rfl, ⟨g, rfl, h2, h3, fun i hi => ?_⟩, h5⟩
  rw [h4 i hi, List.getD_eq_getElem?_getD, List.getElem?_eq_getElem hi]; rfl
theorem wi_inj {a b : W64} (h : wi a = wi b) : a = b := by unfold wi at h; exact BitVec.eq_of_toNat_eq (by omega)
end Tg
end Go.Proofs.YtdfdjampodkpgaaDoor
end

/-! TagBits -/
section
/- Bits as the document counts them: plain facts. -/
set_option linter.unusedSimpArgs false
set_option linter.unusedVariables false
namespace Go.Proofs.YtdfdjampodkpgaaDoor
open Go.RowKit
namespace Tg
/-- the lower i bits of an exclusive or -/
def xo (A B : W64) (i : Nat) : Nat := (A ^^^ B).toNat % 2 ^ i
def dn (A : W64) (i : Nat) : Nat := A.toNat / 2 ^ i
def up (i : Nat) : Nat := 2 ^ i % 18446744073709551616
theorem xo_bd (A B : W64) (i : Nat) : xo A B i ≤ 18446744073709551615 := by
  have h := (A ^^^ B).isLt
  have := Nat.mod_le (A ^^^ B).toNat (2 ^ i)
  unfold xo; omega
theorem dn_bd (A : W64) (i : Nat) : dn A i ≤ 18446744073709551615 := by
  have h := A.isLt
  have := Nat.div_le_self A.toNat (2 ^ i)
  unfold dn; omega
theorem dn_succ (A : W64) (i : Nat) : dn A (i + 1) = dn A i / 2 := by unfold dn; rw [Nat.pow_succ, Nat.div_div_eq_div_mul]
theorem up_succ (i : Nat) : up (i + 1) = (up i * 2) % 18446744073709551616 := by unfold up; rw [Nat.pow_succ]; omega
theorem up_lt {i : Nat} (h : i < 64) : up i = 2 ^ i := by
  unfold up
  have : 2 ^ i < 2 ^ 64 := Nat.pow_lt_pow_right (by omega) h
  rw [Nat.mod_eq_of_lt (by omega)]
theorem xo_bit (A B : W64) (i : Nat) : (A ^^^ B).toNat / 2 ^ i % 2 = (dn A i + dn B i) % 2 := by
  have h := Nat.testBit_xor A.toNat B.toNat i
  rw [← BitVec.toNat_xor] at h
  unfold dn
  simp only [Nat.testBit_eq_decide_div_mod_eq] at h
  generalize (A ^^^ B).toNat / 2 ^ i = x at *
  generalize A.toNat / 2 ^ i = y at *
  generalize B.toNat / 2 ^ i = z at *
  rcases (show x % 2 = 0 ∨ x % 2 = 1 by omega) with h1 | h1 <;> rcases (show y % 2 = 0 ∨ y % 2 = 1 by omega) with h2 | h2 <;> rcases (show z % 2 = 0 ∨ z % 2 = 1 by omega) with h3 | h3 <;> simp [h1, h2, h3] at h <;> omega
theorem xo_succ (A B : W64) (i : Nat) (hi : i < 64) : xo A B (i + 1) = if dn A i % 2 = dn B i % 2 then xo A B i else xo A B i + up i := by
  have hb := xo_bit A B i
  have h := Nat.mod_pow_succ (b := 2) (k := i) (x := (A ^^^ B).toNat)
  rw [up_lt hi]
  unfold xo
  rw [h, hb]
  by_cases g : dn A i % 2 = dn B i % 2
  · rw [if_pos g, show (dn A i + dn B i) % 2 = 0 by omega]; simp
  · rw [if_neg g, show (dn A i + dn B i) % 2 = 1 by omega]; simp
theorem xo_all (A B : W64) : ((xo A B 64 : Nat) : Int) = wi (A ^^^ B) := by
  unfold xo wi
  rw [Nat.mod_eq_of_lt (A ^^^ B).isLt]
theorem rl_succ (x : W64) (k : Nat) (h : k + 1 < 64) : (x.rotateLeft k).rotateLeft 1 = x.rotateLeft (k + 1) := by
  apply BitVec.eq_of_getLsbD_eq
  intro i hi
  simp only [BitVec.getLsbD_rotateLeft, Nat.mod_eq_of_lt (show k < 64 by omega), Nat.mod_eq_of_lt (show k + 1 < 64 by omega), Nat.mod_eq_of_lt (show 1 < 64 by omega)]
  by_cases h0 : i = 0
  · subst h0
    have e1 : ¬ 64 - 1 + 0 < k := by omega
    simp [e1]
  · have e0 : ¬ i < 1 := by omega
    by_cases h1 : i - 1 < k
    · have e1 : i < k + 1 := by omega
      have e2 : 64 - k + (i - 1) = 64 - (k + 1) + i := by omega
      simp [e0, h1, e1, e2, hi, h0]
    · have e1 : ¬ i < k + 1 := by omega
      have e2 : i - 1 - k = i - (k + 1) := by omega
      have e3 : i - 1 < 64 := by omega
      simp [e0, h1, e1, e2, hi, e3, h0]
theorem rl_one (x : W64) : (x.rotateLeft 1).toNat = 2 * x.toNat % 18446744073709551616 + x.toNat / 9223372036854775808 := by
  rw [← rotl_w x 1 (by omega), BitVec.toNat_or, BitVec.toNat_shiftLeft, BitVec.toNat_ushiftRight, Nat.shiftLeft_eq, Nat.shiftRight_eq_div_pow]
  have h := x.isLt
  generalize x.toNat = n at *
  have e : n * 2 ^ 1 % 2 ^ 64 = 2 ^ 1 * (n % 9223372036854775808) := by omega
  have hb : n / 2 ^ (64 - 1) < 2 ^ 1 := by omega
  rw [e, ← Nat.two_pow_add_eq_or_of_lt hb]
  omega
theorem rl_zero (x : W64) : x.rotateLeft 0 = x := by
  apply BitVec.eq_of_getLsbD_eq
  intro i hi
  simp only [BitVec.getLsbD_rotateLeft]; simp [hi]
/-- bytes upward from a place, then t -/
def U (l : List UInt8) (t : Nat) : Nat → Nat → Nat
  | _, 0 => t
  | p, m + 1 => 256 * U l t (p + 1) m + (l.getD p 0).toNat
theorem U_lt (l : List UInt8) (t : Nat) (ht : t < 256) : ∀ m p, U l t p m < 2 ^ (8 * (m + 1))
  | 0, p => by show t < _; simpa using ht
  | m + 1, p => by
    have ih := U_lt l t ht m (p + 1)
    have := (l.getD p 0).toNat_lt
    rw [show 8 * (m + 1 + 1) = 8 * (m + 1) + 8 by omega, Nat.pow_add, U]
    omega
theorem U_lt0 (l : List UInt8) : ∀ m p, U l 0 p m < 2 ^ (8 * m)
  | 0, p => by show 0 < _; simp
  | m + 1, p => by
    have ih := U_lt0 l m (p + 1)
    have := (l.getD p 0).toNat_lt
    rw [show 8 * (m + 1) = 8 * m + 8 by omega, Nat.pow_add, U]
    omega
theorem U_bit (l : List UInt8) (t : Nat) : ∀ m p b, (U l t p m).testBit b = if b < 8 * m then (l.getD (p + b / 8) 0).toNat.testBit (b % 8) else t.testBit (b - 8 * m)
  | 0, p, b => by rw [if_neg (by omega)]; rfl
  | m + 1, p, b => by
    have hc : (l.getD p 0).toNat < 2 ^ 8 := (l.getD p 0).toNat_lt
    rw [U, show (256 : Nat) = 2 ^ 8 by rfl, Nat.testBit_two_pow_mul_add _ hc]
    by_cases h : b < 8
    · rw [if_pos h, if_pos (by omega), show b / 8 = 0 by omega, show b % 8 = b by omega, Nat.add_zero]
    · rw [if_neg h, U_bit l t m (p + 1) (b - 8)]
      by_cases g : b < 8 * (m + 1)
      · rw [if_pos (by omega), if_pos g, show p + 1 + (b - 8) / 8 = p + b / 8 by omega, show (b - 8) % 8 = b % 8 by omega]
      · rw [if_neg (by omega), if_neg g, show b - 8 - 8 * m = b - 8 * (m + 1) by omega]
theorem wi_of (x : W64) (n : Nat) (hn : n < 2 ^ 64) (h : ∀ b, b < 64 → x.getLsbD b = n.testBit b) : wi x = (n : Int) := by
  unfold wi
  congr 1
  apply Nat.eq_of_testBit_eq
  intro b
  by_cases hb : b < 64
  · exact h b hb
  · rw [Nat.testBit_lt_two_pow (Nat.lt_of_lt_of_le hn (Nat.pow_le_pow_right (by omega) (by omega)))]
    exact Nat.testBit_lt_two_pow (Nat.lt_of_lt_of_le x.isLt (Nat.pow_le_pow_right (by omega) (by omega)))
theorem word_whole (l : List UInt8) (j : Nat) (h : 8 * j + 8 ≤ l.length) : ∃ hj : j < (words l).length, wi ((words l)[j]) = (U l 0 (8 * j) 8 : Nat) := by
  refine ⟨by rw [words_len]; omega, ?_⟩
  refine wi_of _ _ (U_lt0 l 8 _) (fun b hb => ?_)
  rw [words_at l j (by omega), if_neg (by omega), wordAt_bit l j b hb, U_bit, if_pos (by omega)]
  have : 8 * j + b / 8 < l.length := by omega
  simp [this]
theorem word_last (l : List UInt8) : ∃ hj : l.length / 8 < (words l).length, wi ((words l)[l.length / 8]) = (U l (l.length % 256) (8 * (l.length / 8)) 7 : Nat) := by
  refine ⟨by rw [words_len]; omega, ?_⟩
  refine wi_of _ _ (U_lt l _ (by omega) 7 _) (fun b hb => ?_)
  rw [words_at l _ (by omega), if_pos rfl, BitVec.getLsbD_or, wordAt_bit l _ b hb, U_bit, BitVec.getLsbD_shiftLeft, BitVec.getLsbD_ofNat]
  by_cases h : b < 8 * 7
  · rw [if_pos h]
    by_cases g : 8 * (l.length / 8) + b / 8 < l.length
    · simp [g, show b < 56 by omega]
    · rw [List.getD_eq_getElem?_getD, List.getElem?_eq_none (by omega)]
      simp [g, show b < 56 by omega]
  · have e1 : ¬ 8 * (l.length / 8) + b / 8 < l.length := by omega
    have e2 : ¬ b < 56 := by omega
    have e3 : b - 56 < 64 := by omega
    have e4 : (l.length % 2 ^ 8).testBit (b - 56) = l.length.testBit (b - 56) := by
      rw [Nat.testBit_mod_two_pow]; simp; omega
    rw [if_neg h, show 8 * 7 = 56 by rfl, show (256 : Nat) = 2 ^ 8 by rfl, e4]
    simp [e1, e2, e3, hb]
end Tg
end Go.Proofs.YtdfdjampodkpgaaDoor
end

/-! TagOwn -/
section
/- Slices of words that the call makes itself; two slices of words compared. -/
set_option linter.unusedSimpArgs false
set_option linter.unusedVariables false
namespace Go.Proofs.YtdfdjampodkpgaaDoor
open Go.RowKit
namespace Tg
def eU (n : Int) : List Value := [.int .u64 n]
theorem eU_at {w : World} {b off : Nat} {xs : List Int} (h : ∀ (i : Nat) (h : i < xs.length) (j : Nat) (u : Value), (eU xs[i])[j]? = some u → w.cell? ⟨b, off + (i * 1 + j), none⟩ = some u)
    (i : Nat) (hi : i < xs.length) : w.cell? ⟨b, off + i, none⟩ = some (.int .u64 xs[i]) := by
  have := h i hi 0 _ rfl
  simpa using this
theorem Wd.rd {w : World} {v : Value} {l : List W64} (h : Wd w v l) : Rd 1 eU w v (l.map wi) := by
  obtain ⟨g, rfl, h1, h2, h3⟩ := h
  refine ⟨some ⟨g, 0, none⟩, l.length, by simp, by simp, by unfold maxLen; omega, fun hn => ⟨g, 0, rfl, h1, ?_⟩⟩
  intro i hi j u hu
  have hi' : i < l.length := by simpa using hi
  match j with
  | 0 => simp [eU] at hu; subst hu; simpa using h3 i hi'
  | j + 1 => simp [eU] at hu
abbrev OwnU (w : World) (base : Nat) (v : Value) (xs : List Int) : Prop := w.ownsRow base 43 1 v xs.length (xs.map (Value.int .u64))
theorem own_nilU (w : World) (base : Nat) : OwnU w base (.slice none 0 0) [] := World.ownsRow_nil w base 43 1
theorem app_u {ops : Array Oper} {rest : List Oper} {o : Oper} {a : Act} {Q : Exit → Act → World → Prop} {w : World} (hgd : o.guard = none) (s x : Operand)
    (ho : o.op = .call { callee := .builtin .append, args := #[s, x], argTypes := #[128, 128] }) (base : Nat) (v : Value) (xs : List Int) (hs : a.eval s = v) (hown : OwnU w base v xs)
    (g c : Nat) (u : Int) (hx : a.eval x = .slice (some ⟨g, 0, none⟩) 1 c) (hc : w.cell? ⟨g, 0, none⟩ = some (.int .u64 u)) (hn : xs.length ≤ 17592186044415) (hbase : base ≤ w.heap.size)
    (h : ∀ v' w', OwnU w' base v' (xs ++ [u]) → Below base w w' → wpList Tryd.prog ops Q rest (a.put o.dst v') w') : wpList Tryd.prog ops Q (o :: rest) a w := by
  obtain ⟨i0, hi0, hz0, hz1, hz2⟩ := info_parts u64_info
  refine wpList_append_own_at w hgd s x _ ho base 43 i0 _ 1 8 Tryd.underlying128 hi0 hz0 hz1 hz2 rfl (by omega) v xs.length (xs.map (Value.int .u64)) hs hown ⟨g, 0, none⟩ 1 c [.int .u64 u] hx rfl
    (fun j y hy => ?_) (fun y hy => ?_) (by unfold maxLen; omega) (by omega) hbase ?_
  · match j with
    | 0 => simp at hy; subst hy; rw [Addr.add_zero']; exact hc
    | j + 1 => simp at hy
  · simp at hy; subst hy; rfl
  · intro v' w' hown' hg _ _
    refine h v' w' ?_ ((Below.refl _ _).grown hg hbase (fun k hk => (hown.lt k hk).1))
    simpa [OwnU] using hown'
theorem OwnU.next {w w' : World} {base : Nat} {v : Value} {xs : List Int} (h : OwnU w base v xs) (hb : Below w.heap.size w w') : OwnU w' base v xs := by
  obtain ⟨hl, h | ⟨g, cap, cur, h1, h2, h3, h4, h5, h6, h7⟩⟩ := h
  · exact ⟨hl, .inl h⟩
  · refine ⟨hl, .inr ⟨g, cap, cur, h1, h2, ?_, h4, h5, h6, h7⟩⟩
    have hlt : g < w.heap.size := by
      rcases Nat.lt_or_ge g w.heap.size with hlt | hge
      · exact hlt
      · rw [Array.getElem?_eq_none hge] at h3; cases h3
    rw [hb.block g hlt]; exact h3
theorem OwnU.rd {w : World} {base : Nat} {v : Value} {xs : List Int} (h : OwnU w base v xs) : Rd 1 eU w v xs := by
  refine Rd.of_own h rfl (fun i hi j u hu => ?_)
  match j with
  | 0 => simp [eU] at hu; subst hu; exact ⟨by omega, by simp [hi]⟩
  | j + 1 => simp [eU] at hu
def SameUQ (xs ys : List Int) (w : World) (e : Ending) (w' : World) : Prop := e = .returned (.bool (decide (xs = ys))) ∧ Below w.heap.size w w'
end Tg
end Go.Proofs.YtdfdjampodkpgaaDoor
end

/-! TagEq -/
section
/- Two states of four words compared. -/
set_option linter.unusedSimpArgs false
set_option linter.unusedVariables false
namespace Go.Proofs.YtdfdjampodkpgaaDoor
open Go.RowKit
namespace Tg
theorem ei {x y : W64} : (wi x == wi y) = decide (x = y) := by
  by_cases h : x = y
  · subst h; simp
  · rw [decide_eq_false h]; exact beq_eq_false_iff_ne.2 (fun e => h (wi_inj e))
theorem eq4 (x y : S) (w : World) : Sem.run Tryd.prog (binOp .eql 126 (.agg #[.int .u64 (wi x.a), .int .u64 (wi x.b), .int .u64 (wi x.c), .int .u64 (wi x.d)]) (.agg #[.int .u64 (wi y.a), .int .u64 (wi y.b), .int .u64 (wi y.c), .int .u64 (wi y.d)])) w = .ok (.bool (decide (x = y))) w := by
  obtain ⟨i, hi, _⟩ := info_parts u64_info
  have hC : Tryd.prog.cellsOf 43 = 1 := by kernel_rfl
  have hp : Tryd.prog.plainKey 43 = true := by kernel_rfl
  have hq := fun (d : Nat) (a b : Int) => run_equalIn_int (P := Tryd.prog) w d 43 .u64 .u64 a b Tryd.underlying43
  rw [run_eql_struct, show (10000 : Nat) = 9999 + 1 from rfl, run_equalIn_array w 9999 _ _ Tryd.underlying126 hi, hC]
  rw [show List.range 4 = [0, 1, 2, 3] from rfl]
  have g0 : ∀ z : S, (part 43 #[.int .u64 (wi z.a), .int .u64 (wi z.b), .int .u64 (wi z.c), .int .u64 (wi z.d)] (0 * 1)).run Tryd.prog w = .ok (.int .u64 (wi z.a)) w := fun z => run_part_plain w hp rfl
  have g1 : ∀ z : S, (part 43 #[.int .u64 (wi z.a), .int .u64 (wi z.b), .int .u64 (wi z.c), .int .u64 (wi z.d)] (1 * 1)).run Tryd.prog w = .ok (.int .u64 (wi z.b)) w := fun z => run_part_plain w hp rfl
  have g2 : ∀ z : S, (part 43 #[.int .u64 (wi z.a), .int .u64 (wi z.b), .int .u64 (wi z.c), .int .u64 (wi z.d)] (2 * 1)).run Tryd.prog w = .ok (.int .u64 (wi z.c)) w := fun z => run_part_plain w hp rfl
  have g3 : ∀ z : S, (part 43 #[.int .u64 (wi z.a), .int .u64 (wi z.b), .int .u64 (wi z.c), .int .u64 (wi z.d)] (3 * 1)).run Tryd.prog w = .ok (.int .u64 (wi z.d)) w := fun z => run_part_plain w hp rfl
  have hq9 := hq 9998
  simp only [show (9998 : Nat) + 1 = 9999 from rfl] at hq9
  have hx : (x = y) ↔ (x.a = y.a ∧ x.b = y.b ∧ x.c = y.c ∧ x.d = y.d) := by
    constructor
    · intro h; subst h; exact ⟨rfl, rfl, rfl, rfl⟩
    · rintro ⟨h1, h2, h3, h4⟩
      cases x; cases y; simp_all
  by_cases h1 : x.a = y.a
  · by_cases h2 : x.b = y.b
    · by_cases h3 : x.c = y.c
      · by_cases h4 : x.d = y.d
        · rw [decide_eq_true (hx.2 ⟨h1, h2, h3, h4⟩)]
          simp only [Op.eqItems, Sem.run_bind, g0, g1, g2, g3, Result.andThen_ok, hq9, ei, Sem.run_ite, Sem.run_pure, Bool.not_true, Bool.not_false, Bool.false_eq_true, if_false, if_true, decide_eq_true h1, decide_eq_true h2, decide_eq_true h3, decide_eq_true h4]
        · rw [decide_eq_false (fun e => h4 (hx.1 e).2.2.2)]
          simp only [Op.eqItems, Sem.run_bind, g0, g1, g2, g3, Result.andThen_ok, hq9, ei, Sem.run_ite, Sem.run_pure, Bool.not_true, Bool.not_false, Bool.false_eq_true, if_false, if_true, decide_eq_true h1, decide_eq_true h2, decide_eq_true h3, decide_eq_false h4]
      · rw [decide_eq_false (fun e => h3 (hx.1 e).2.2.1)]
        simp only [Op.eqItems, Sem.run_bind, g0, g1, g2, g3, Result.andThen_ok, hq9, ei, Sem.run_ite, Sem.run_pure, Bool.not_true, Bool.not_false, Bool.false_eq_true, if_false, if_true, decide_eq_true h1, decide_eq_true h2, decide_eq_false h3]
    · rw [decide_eq_false (fun e => h2 (hx.1 e).2.1)]
      simp only [Op.eqItems, Sem.run_bind, g0, g1, g2, g3, Result.andThen_ok, hq9, ei, Sem.run_ite, Sem.run_pure, Bool.not_true, Bool.not_false, Bool.false_eq_true, if_false, if_true, decide_eq_true h1, decide_eq_false h2]
  · rw [decide_eq_false (fun e => h1 (hx.1 e).1)]
    simp only [Op.eqItems, Sem.run_bind, g0, g1, g2, g3, Result.andThen_ok, hq9, ei, Sem.run_ite, Sem.run_pure, Bool.not_true, Bool.not_false, Bool.false_eq_true, if_false, if_true, decide_eq_false h1]
end Tg
end Go.Proofs.YtdfdjampodkpgaaDoor
end

/-! TagLaws -/
section
/- The laws on tags: what must be in any case; a round loses nothing. -/
set_option linter.unusedSimpArgs false
set_option linter.unusedVariables false
namespace Go.Proofs.YtdfdjampodkpgaaDoor
open Go.RowKit
namespace Tg
theorem box4 {w w3 : World} {v : S} {t : TypeId} (hB : Below (w.heap.size + 1) (w.alloc (.cells #[.int .u64 (wi v.a), .int .u64 (wi v.b), .int .u64 (wi v.c), .int .u64 (wi v.d)] t)) w3) : w3.cell? ⟨w.heap.size, 0, none⟩ = some (.int .u64 (wi v.a)) ∧ w3.cell? ⟨w.heap.size, 1, none⟩ = some (.int .u64 (wi v.b)) ∧ w3.cell? ⟨w.heap.size, 2, none⟩ = some (.int .u64 (wi v.c)) ∧ w3.cell? ⟨w.heap.size, 3, none⟩ = some (.int .u64 (wi v.d)) :=
  ⟨boxc hB 0, boxc hB 1, boxc hB 2, boxc hB 3⟩
theorem take_x (v : S) (m : W64) (w : World) : Calls Tryd.prog 89 #[.agg #[.int .u64 (wi v.a), .int .u64 (wi v.b), .int .u64 (wi v.c), .int .u64 (wi v.d)], .int .u64 (wi m)] w fun e w' => e = .returned (.agg #[.int .u64 (wi (take v m).a), .int .u64 (wi (take v m).b), .int .u64 (wi (take v m).c), .int .u64 (wi (take v m).d)]) ∧ Below w.heap.size w w' := take_any v m w
end Tg
end Go.Proofs.YtdfdjampodkpgaaDoor
end

/-! TagRef -/
section
/- The document's exclusive or and its turns. -/
set_option linter.unusedSimpArgs false
set_option linter.unusedVariables false
namespace Go.Proofs.YtdfdjampodkpgaaDoor
open Go.RowKit
namespace Tg
abbrev NatW (n : Nat) : Value := .int .u64 (n : Int)
set_option maxHeartbeats 1000000 in
theorem xored_any (A B : W64) (w : World) : Calls Tryd.prog 104 #[.int .u64 (wi A), .int .u64 (wi B)] w fun e w' => e = .returned (.int .u64 (wi (A ^^^ B))) ∧ Below w.heap.size w w' := by
  have hA : wi A = (dn A 0 : Nat) := by unfold wi dn; simp
  have hB : wi B = (dn B 0 : Nat) := by unfold wi dn; simp
  have HX := Lib.hid (xo_all A B)
  rw [hA, hB]
  clear hA hB
  go_enter Tryd.func104, Tryd.ntmps104
  go_wp2
  go_loopw [0, 1, 5, 6, 7] (fun a b o u i wr => ∃ k : Nat, k ≤ 64 ∧ i = .int .i64 k ∧ a = NatW (dn A k) ∧ b = NatW (dn B k) ∧ o = NatW (xo A B k) ∧ u = NatW (up k) ∧ Below w.heap.size w wr) (fun _ _ _ _ i _ => 64 - (intOf i).toNat)
  case atStart => exact ⟨0, by omega, rfl, rfl, rfl, by rw [show xo A B 0 = 0 by unfold xo; omega]; rfl, rfl, br w⟩
  case round =>
    obtain ⟨k, hk, rfl, rfl, rfl, rfl, rfl, hbw⟩ := hrel
    by_cases hlt : k < 64
    · have s1 := dn_succ A k
      have s2 := dn_succ B k
      have s3 := xo_succ A B k hlt
      have s4 := up_succ k
      have b1 := dn_bd A k
      have b2 := dn_bd B k
      have b3 := xo_bd A B k
      have b4 := xo_bd A B (k + 1)
      have S1 := Lib.hid s1; have S2 := Lib.hid s2
      obtain ⟨x', hx'⟩ : ∃ x', dn A (k + 1) = x' := ⟨_, rfl⟩
      obtain ⟨y', hy'⟩ : ∃ x', dn B (k + 1) = x' := ⟨_, rfl⟩
      obtain ⟨o', ho'⟩ : ∃ x', xo A B (k + 1) = x' := ⟨_, rfl⟩
      obtain ⟨u', hu'⟩ : ∃ x', up (k + 1) = x' := ⟨_, rfl⟩
      rw [hx'] at s1; rw [hy'] at s2; rw [ho'] at s3 b4; rw [hu'] at s4
      have HX' := Lib.hid hx'; have HY' := Lib.hid hy'; have HO' := Lib.hid ho'; have HU' := Lib.hid hu'
      clear hx' hy' ho' hu'
      have b5 : up k ≤ 18446744073709551615 := by unfold up; omega
      generalize dn A k = x at *
      generalize dn B k = y at *
      generalize xo A B k = o at *
      generalize up k = u at *
      have d1 : (x : Int).tdiv 2 = (x' : Int) := by rw [Int.tdiv_eq_ediv_of_nonneg (by omega)]; omega
      have d2 : (y : Int).tdiv 2 = (y' : Int) := by rw [Int.tdiv_eq_ediv_of_nonneg (by omega)]; omega
      have d1' : (x : Int) / 2 = (x' : Int) := by omega
      have d2' : (y : Int) / 2 = (y' : Int) := by omega
      have m1 : (x : Int).tmod 2 = (x : Int) % 2 := Int.tmod_eq_emod_of_nonneg (by omega)
      have m2 : (y : Int).tmod 2 = (y : Int) % 2 := Int.tmod_eq_emod_of_nonneg (by omega)
      have hw : IntKind.u64.wrap ((u : Int) * 2) = (u' : Int) := by rw [IntKind.wrap_u64]; omega
      by_cases hd : x % 2 = y % 2
      · rw [if_pos hd] at s3
        subst s3
        have hne : ((x : Int) % 2 != (y : Int) % 2) = false := by simp; omega
        have S4 := Lib.hid s4
        clear s1 s2 s4 hd
        go_wp2
        go_roundw
        case rel => exact ⟨k + 1, by omega, by go_num, by rw [HX'.out], by rw [HY'.out], by rw [HO'.out], by rw [HU'.out], by first | exact hbw | exact bn hbw _⟩
        case measure => simp [intOf]; omega
      · rw [if_neg hd] at s3
        have hne : ((x : Int) % 2 != (y : Int) % 2) = true := by simp; omega
        have hs : (o : Int) + (u : Int) = (o' : Int) := by omega
        have S3 := Lib.hid s3; have S4 := Lib.hid s4
        clear s1 s2 s3 s4 hd
        go_wp2
        go_roundw
        case rel => exact ⟨k + 1, by omega, by go_num, by rw [HX'.out], by rw [HY'.out], by rw [HO'.out], by rw [HU'.out], by first | exact hbw | exact bn hbw _⟩
        case measure => simp [intOf]; omega
    · obtain rfl : k = 64 := by omega
      go_wp2
      go_ret
      exact ⟨by rw [← HX.out]; rfl, by first | exact hbw | exact bn hbw _⟩
set_option maxHeartbeats 1000000 in
theorem turned_any (x : W64) (r : Nat) (hr : r ≤ 63) (w : World) : Calls Tryd.prog 111 #[.int .u64 (wi x), .int .i64 r] w fun e w' => e = .returned (.int .u64 (wi (x.rotateLeft r))) ∧ Below w.heap.size w w' := by
  have h0 : wi x = wi (x.rotateLeft 0) := by rw [rl_zero]
  have H0 := Lib.hid h0; clear h0
  go_enter Tryd.func111, Tryd.ntmps111
  go_wp2
  go_loopw [0, 5] (fun n i wr => ∃ k : Nat, k ≤ r ∧ i = .int .i64 k ∧ n = .int .u64 (wi (x.rotateLeft k)) ∧ Below w.heap.size w wr) (fun _ i _ => r - (intOf i).toNat)
  case atStart => exact ⟨0, by omega, rfl, by rw [H0.out], br w⟩
  case round =>
    obtain ⟨k, hk, rfl, rfl, hbw⟩ := hrel
    by_cases hlt : k < r
    · have s1 := rl_succ x k (by omega)
      have s2 := rl_one (x.rotateLeft k)
      rw [s1] at s2
      have b := (x.rotateLeft k).isLt
      have hx : wi (x.rotateLeft k) = ((x.rotateLeft k).toNat : Int) := rfl
      have hy : wi (x.rotateLeft (k + 1)) = ((x.rotateLeft (k + 1)).toNat : Int) := rfl
      generalize (x.rotateLeft (k + 1)).toNat = n' at *
      generalize (x.rotateLeft k).toNat = n at *
      rw [hx]
      have d1 : (n : Int).tdiv 9223372036854775808 = (n : Int) / 9223372036854775808 := Int.tdiv_eq_ediv_of_nonneg (by omega)
      obtain ⟨q, hq⟩ : ∃ q : Int, (n : Int) / 9223372036854775808 = q := ⟨_, rfl⟩
      obtain ⟨p, hp⟩ : ∃ p : Int, IntKind.u64.wrap (2 * (n : Int)) = p := ⟨_, rfl⟩
      have hp2 := hp
      rw [IntKind.wrap_u64] at hp2
      have hq0 : 0 ≤ q ∧ q ≤ 1 := by omega
      have hp0 : 0 ≤ p ∧ p ≤ 18446744073709551614 := by omega
      have hpq : p + q = (n' : Int) := by omega
      have hn : (n : Int) ≤ 18446744073709551615 := by omega
      have hn' : (n' : Int) ≤ 18446744073709551615 := by omega
      have hq1 := hq0.1; have hq2 := hq0.2; have hp1 := hp0.1; have hp3 := hp0.2
      have HY := Lib.hid hy
      rw [hq] at d1
      clear s1 s2 b hx hp2 hy hq0 hp0
      go_wp2
      go_roundw
      case rel => exact ⟨k + 1, by omega, by go_num, by rw [HY.out], by first | exact hbw | exact bn hbw _⟩
      case measure => simp [intOf]; omega
    · obtain rfl : k = r := by omega
      go_wp2
      go_ret
      exact ⟨rfl, by first | exact hbw | exact bn hbw _⟩
end Tg
end Go.Proofs.YtdfdjampodkpgaaDoor
end

/-! TagLaws2 -/
section
/- What differs before a word is taken differs behind it. -/
set_option linter.unusedSimpArgs false
set_option linter.unusedVariables false
namespace Go.Proofs.YtdfdjampodkpgaaDoor
open Go.RowKit
namespace Tg
end Tg
end Go.Proofs.YtdfdjampodkpgaaDoor
end

/-! TagRef2 -/
section
/- The document's round, start, taking and finish. -/
set_option linter.unusedSimpArgs false
set_option linter.unusedVariables false
namespace Go.Proofs.YtdfdjampodkpgaaDoor
open Go.RowKit
namespace Tg
def two (w : World) (v : S) (t1 t2 : TypeId) : World := (w.alloc (.cells #[.int .u64 (wi v.a), .int .u64 (wi v.b), .int .u64 (wi v.c), .int .u64 (wi v.d)] t1)).alloc (.cells #[.int .u64 0, .int .u64 0, .int .u64 0, .int .u64 0] t2)
theorem two_v (w : World) (v : S) (t1 t2 : TypeId) : S4 w.heap.size w (two w v t1 t2) w.heap.size v := by
  unfold two; exact (st4 w v t1).next ((br _).alloc (Nat.le_refl _) _) (by simp)
theorem two_r (w : World) (v : S) (t1 t2 : TypeId) : S4 w.heap.size w (two w v t1 t2) (w.heap.size + 1) ⟨0, 0, 0, 0⟩ := by
  have hs : (w.alloc (.cells #[.int .u64 (wi v.a), .int .u64 (wi v.b), .int .u64 (wi v.c), .int .u64 (wi v.d)] t1)).heap.size = w.heap.size + 1 := by simp
  unfold two
  refine ⟨((br w).alloc (Nat.le_refl _) _).alloc (by simp) _, by omega, by simp, ?_, ?_, ?_, ?_, fun j => ?_⟩
  · rw [← hs, World.cell?_alloc_mark]; rfl
  · rw [← hs, World.cell?_alloc_mark]; rfl
  · rw [← hs, World.cell?_alloc_mark]; rfl
  · rw [← hs, World.cell?_alloc_mark]; rfl
  · rw [← hs, World.frozen?_alloc_mark]; simp
theorem S4.far {B : Nat} {W w : World} {g r : Nat} {v : S} (h : S4 B W w r v) (hne : g ≠ r) (hg : B ≤ g) (k : Nat) (x : Value) : S4 B W (w.setCell ⟨g, k, none⟩ x) r v := by
  have e : ∀ j, (⟨g, k, none⟩ : Addr) ≠ ⟨r, j, none⟩ := fun j y => by injection y with y; exact hne y
  refine ⟨h.below.setCell hg _, h.ge, by have := h.lt; simpa using this, ?_, ?_, ?_, ?_, fun j => ?_⟩
  · rw [World.cell?_setCell_other _ _ _ _ (e 0)]; exact h.c0
  · rw [World.cell?_setCell_other _ _ _ _ (e 1)]; exact h.c1
  · rw [World.cell?_setCell_other _ _ _ _ (e 2)]; exact h.c2
  · rw [World.cell?_setCell_other _ _ _ _ (e 3)]; exact h.c3
  · rw [World.frozen?_setCell]; exact h.fr j
theorem S4.far4 {B : Nat} {W w : World} {g r : Nat} {v : S} (h : S4 B W w r v) (hne : g ≠ r) (hg : B ≤ g) (u : S) : S4 B W (set4 w g u) r v :=
  (((h.far hne hg 0 _).far hne hg 1 _).far hne hg 2 _).far hne hg 3 _
set_option maxHeartbeats 2000000 in
theorem roundOf_any (v : S) (w : World) : Calls Tryd.prog 105 #[aS v] w fun e w' => e = .returned (aS (round v)) ∧ Below w.heap.size w w' := by
  have G := two_v w v 126 126
  have R := Lib.hid (two_r w v 126 126)
  obtain ⟨a, b, c, d⟩ := v
  obtain ⟨a1, h1⟩ : ∃ x, a + b = x := ⟨_, rfl⟩
  obtain ⟨b1, h2⟩ : ∃ x, b.rotateLeft 13 ^^^ a1 = x := ⟨_, rfl⟩
  obtain ⟨a2, h3⟩ : ∃ x, a1.rotateLeft 32 = x := ⟨_, rfl⟩
  obtain ⟨c1, h4⟩ : ∃ x, c + d = x := ⟨_, rfl⟩
  obtain ⟨d1, h5⟩ : ∃ x, d.rotateLeft 16 ^^^ c1 = x := ⟨_, rfl⟩
  obtain ⟨a3, h6⟩ : ∃ x, a2 + d1 = x := ⟨_, rfl⟩
  obtain ⟨d2, h7⟩ : ∃ x, d1.rotateLeft 21 ^^^ a3 = x := ⟨_, rfl⟩
  obtain ⟨c2, h8⟩ : ∃ x, c1 + b1 = x := ⟨_, rfl⟩
  obtain ⟨b2, h9⟩ : ∃ x, b1.rotateLeft 17 ^^^ c2 = x := ⟨_, rfl⟩
  obtain ⟨c3, h10⟩ : ∃ x, c2.rotateLeft 32 = x := ⟨_, rfl⟩
  have hr : round ⟨a, b, c, d⟩ = ⟨a3, b2, c3, d2⟩ := by rw [← h10, ← h9, ← h8, ← h7, ← h6, ← h5, ← h4, ← h3, ← h2, ← h1]; rfl
  have s1 := add_w a b; have s2 := add_w c d; have s3 := add_w a2 d1; have s4 := add_w c1 b1
  rw [h1] at s1; rw [h4] at s2; rw [h6] at s3; rw [h8] at s4
  have H2 := Lib.hid h2; have H3 := Lib.hid h3; have H5 := Lib.hid h5; have H7 := Lib.hid h7; have H9 := Lib.hid h9; have H10 := Lib.hid h10
  rw [hr]
  clear h1 h2 h3 h4 h5 h6 h7 h8 h9 h10 hr
  unfold aS
  have g0 := G.c0; have g1 := G.c1; have g2 := G.c2; have g3 := G.c3
  unfold two at g0 g1 g2 g3
  clear G
  go_enter Tryd.func105, Tryd.ntmps105
  go_wp2_with fail
  go_quiet (fail)
  clear g0 g1 g2 g3
  go_wp2_with fail
  refine (turned_any b 13 (by omega) _).mono ?_
  rintro en w1 ⟨rfl, hb⟩
  have R1 := Lib.hid ((R.out.dr nq).next hb (by first | exact R.out.below.size | (simp)))
  clear hb
  go_wp2_with fail
  refine (xored_any (b.rotateLeft 13) a1 _).mono ?_
  rintro en w2 ⟨rfl, hb⟩
  rw [H2.out]
  have R2 := Lib.hid (R1.out.next hb (by first | exact R1.out.below.size | (simp)))
  clear hb
  go_wp2_with fail
  refine (turned_any a1 32 (by omega) _).mono ?_
  rintro en w3 ⟨rfl, hb⟩
  rw [H3.out]
  have R3 := Lib.hid (R2.out.next hb (by first | exact R2.out.below.size | (simp)))
  clear hb
  go_wp2_with fail
  refine (turned_any d 16 (by omega) _).mono ?_
  rintro en w4 ⟨rfl, hb⟩
  have R4 := Lib.hid (R3.out.next hb (by first | exact R3.out.below.size | (simp)))
  clear hb
  go_wp2_with fail
  refine (xored_any (d.rotateLeft 16) c1 _).mono ?_
  rintro en w5 ⟨rfl, hb⟩
  rw [H5.out]
  have R5 := Lib.hid (R4.out.next hb (by first | exact R4.out.below.size | (simp)))
  clear hb
  go_wp2_with fail
  refine (turned_any d1 21 (by omega) _).mono ?_
  rintro en w6 ⟨rfl, hb⟩
  have R6 := Lib.hid (R5.out.next hb (by first | exact R5.out.below.size | (simp)))
  clear hb
  go_wp2_with fail
  refine (xored_any (d1.rotateLeft 21) a3 _).mono ?_
  rintro en w7 ⟨rfl, hb⟩
  rw [H7.out]
  have R7 := Lib.hid (R6.out.next hb (by first | exact R6.out.below.size | (simp)))
  clear hb
  go_wp2_with fail
  refine (turned_any b1 17 (by omega) _).mono ?_
  rintro en w8 ⟨rfl, hb⟩
  have R8 := Lib.hid (R7.out.next hb (by first | exact R7.out.below.size | (simp)))
  clear hb
  go_wp2_with fail
  refine (xored_any (b1.rotateLeft 17) c2 _).mono ?_
  rintro en w9 ⟨rfl, hb⟩
  rw [H9.out]
  have R9 := Lib.hid (R8.out.next hb (by first | exact R8.out.below.size | (simp)))
  clear hb
  go_wp2_with fail
  refine (turned_any c2 32 (by omega) _).mono ?_
  rintro en w10 ⟨rfl, hb⟩
  rw [H10.out]
  have R10 := Lib.hid (R9.out.next hb (by first | exact R9.out.below.size | (simp)))
  clear hb
  have r := R10.out
  have RR := Lib.hid (r.put ⟨a3, b2, c3, d2⟩)
  have x0 := r.c0; have x1 := r.c1; have x2 := r.c2; have x3 := r.c3
  have y0 := r.fr 0; have y1 := r.fr 1; have y2 := r.fr 2; have y3 := r.fr 3
  simp only at x0 x1 x2 x3
  have z : wi 0 = 0 := rfl
  rw [z] at x0 x1 x2 x3
  clear R R1 R2 R3 R4 R5 R6 R7 R8 R9 R10 r H2 H3 H5 H7 H9 H10 s1 s2 s3 s4
  go_wp2
  have rr := RR.out
  unfold set4 at rr
  simp only at rr
  generalize (((w10.setCell ⟨w.heap.size + 1, 0, none⟩ (.int .u64 (wi a3))).setCell ⟨w.heap.size + 1, 1, none⟩ (.int .u64 (wi b2))).setCell ⟨w.heap.size + 1, 2, none⟩ (.int .u64 (wi c3))).setCell ⟨w.heap.size + 1, 3, none⟩ (.int .u64 (wi d2)) = wf at *
  have z0 := rr.c0; have z1 := rr.c1; have z2 := rr.c2; have z3 := rr.c3
  simp only at z0 z1 z2 z3
  refine bodyPost_ret (v := .agg #[.int .u64 (wi a3), .int .u64 (wi b2), .int .u64 (wi c3), .int .u64 (wi d2)]) (by simp [results, Tryd.results105, go_sem, z0, z1, z2, z3]) rfl ⟨rfl, rr.below⟩
end Tg
end Go.Proofs.YtdfdjampodkpgaaDoor
end

/-! TagRef3 -/
section
/- The document's start of a key. -/
set_option linter.unusedSimpArgs false
set_option linter.unusedVariables false
namespace Go.Proofs.YtdfdjampodkpgaaDoor
open Go.RowKit
namespace Tg
set_option maxHeartbeats 1000000 in
theorem startOf_any (a b : W64) (w : World) : Calls Tryd.prog 96 #[aK a b] w fun e w' => e = .returned (aS (start a b)) ∧ Below w.heap.size w w' := by
  obtain ⟨p0, h0⟩ : ∃ x, a ^^^ 8317987319222330741 = x := ⟨_, rfl⟩
  obtain ⟨p1, h1⟩ : ∃ x, b ^^^ 7237128888997146477 = x := ⟨_, rfl⟩
  obtain ⟨p2, h2⟩ : ∃ x, a ^^^ 7816392313619706465 = x := ⟨_, rfl⟩
  obtain ⟨p3, h3⟩ : ∃ x, b ^^^ 8387220255154660723 = x := ⟨_, rfl⟩
  have hr : start a b = ⟨p0, p1, p2, p3⟩ := by rw [← h0, ← h1, ← h2, ← h3]; rfl
  rw [hr]
  have H0 := Lib.hid h0; have H1 := Lib.hid h1; have H2 := Lib.hid h2; have H3 := Lib.hid h3
  clear h0 h1 h2 h3 hr
  have hs : ∀ t, (w.alloc (.cells #[.int .u64 (wi a), .int .u64 (wi b)] t)).heap.size = w.heap.size + 1 := fun t => by simp
  have R : ∀ t t2, S4 w.heap.size w ((w.alloc (.cells #[.int .u64 (wi a), .int .u64 (wi b)] t)).alloc (.cells #[.int .u64 0, .int .u64 0, .int .u64 0, .int .u64 0] t2)) (w.heap.size + 1) ⟨0, 0, 0, 0⟩ := fun t t2 => by
    refine ⟨((br w).alloc (Nat.le_refl _) _).alloc (by simp) _, by omega, by simp, ?_, ?_, ?_, ?_, fun j => ?_⟩
    · rw [← hs t, World.cell?_alloc_mark]; rfl
    · rw [← hs t, World.cell?_alloc_mark]; rfl
    · rw [← hs t, World.cell?_alloc_mark]; rfl
    · rw [← hs t, World.cell?_alloc_mark]; rfl
    · rw [← hs t, World.frozen?_alloc_mark]; simp
  have G : ∀ t t2, ((w.alloc (.cells #[.int .u64 (wi a), .int .u64 (wi b)] t)).alloc (.cells #[.int .u64 0, .int .u64 0, .int .u64 0, .int .u64 0] t2)).cell? ⟨w.heap.size, 0, none⟩ = some (.int .u64 (wi a)) ∧ ((w.alloc (.cells #[.int .u64 (wi a), .int .u64 (wi b)] t)).alloc (.cells #[.int .u64 0, .int .u64 0, .int .u64 0, .int .u64 0] t2)).cell? ⟨w.heap.size, 1, none⟩ = some (.int .u64 (wi b)) := fun t t2 => by
    have hb := (br (w.alloc (.cells #[.int .u64 (wi a), .int .u64 (wi b)] t))).alloc (Nat.le_refl _) (.cells #[.int .u64 0, .int .u64 0, .int .u64 0, .int .u64 0] t2)
    constructor
    · rw [hb.cell (p := ⟨w.heap.size, 0, none⟩) (by simp), World.cell?_alloc_mark]; rfl
    · rw [hb.cell (p := ⟨w.heap.size, 1, none⟩) (by simp), World.cell?_alloc_mark]; rfl
  replace R := R 45 126
  obtain ⟨g0, g1⟩ := G 45 126
  clear G hs
  have hlt : w.heap.size ≠ w.heap.size + 1 := by omega
  unfold aK aS
  go_enter Tryd.func96, Tryd.ntmps96
  go_wp2_with fail
  generalize ((w.alloc (.cells #[.int .u64 (wi a), .int .u64 (wi b)] 45)).alloc (.cells #[.int .u64 0, .int .u64 0, .int .u64 0, .int .u64 0] 126)) = wA at *
  have hRB := R.below
  have x0 := R.c0; have x1 := R.c1; have x2 := R.c2; have x3 := R.c3
  have y0 := R.fr 0; have y1 := R.fr 1; have y2 := R.fr 2; have y3 := R.fr 3
  simp only at x0 x1 x2 x3
  have z : wi 0 = 0 := rfl
  rw [z] at x0 x1 x2 x3
  have hRl := R.lt
  have HR := Lib.hid R
  have hgA : w.heap.size ≤ wA.heap.size := R.below.size
  clear R z
  have X0 := Lib.hid (show ∀ w, Calls Tryd.prog 104 #[.int .u64 (wi a), .int .u64 8317987319222330741] w fun e w' => e = .returned (.int .u64 (wi p0)) ∧ Below w.heap.size w w' from fun w => by have h := xored_any a 8317987319222330741 w; rw [H0.out] at h; exact h)
  have X1 := Lib.hid (show ∀ w, Calls Tryd.prog 104 #[.int .u64 (wi b), .int .u64 7237128888997146477] w fun e w' => e = .returned (.int .u64 (wi p1)) ∧ Below w.heap.size w w' from fun w => by have h := xored_any b 7237128888997146477 w; rw [H1.out] at h; exact h)
  have X2 := Lib.hid (show ∀ w, Calls Tryd.prog 104 #[.int .u64 (wi a), .int .u64 7816392313619706465] w fun e w' => e = .returned (.int .u64 (wi p2)) ∧ Below w.heap.size w w' from fun w => by have h := xored_any a 7816392313619706465 w; rw [H2.out] at h; exact h)
  have X3 := Lib.hid (show ∀ w, Calls Tryd.prog 104 #[.int .u64 (wi b), .int .u64 8387220255154660723] w fun e w' => e = .returned (.int .u64 (wi p3)) ∧ Below w.heap.size w w' from fun w => by have h := xored_any b 8387220255154660723 w; rw [H3.out] at h; exact h)
  clear H0 H1 H2 H3
  have hne : ∀ k j : Nat, (⟨w.heap.size + 1, k, none⟩ : Addr) ≠ ⟨w.heap.size, j, none⟩ := fun k j e => by injection e; omega
  generalize hgs : w.heap.size = g at *
  generalize g + 1 = r at *
  go_region_held3 (fun w' => w'.cell? ⟨g, 0, none⟩ = some (.int .u64 (wi a)) ∧ w'.cell? ⟨g, 1, none⟩ = some (.int .u64 (wi b)))
    (first | (go_split_ands; apply And.intro <;> (rw [World.cell?_setCell_other _ _ _ _ (hne 3 _), World.cell?_setCell_other _ _ _ _ (hne 2 _), World.cell?_setCell_other _ _ _ _ (hne 1 _), World.cell?_setCell_other _ _ _ _ (hne 0 _)]; assumption)) | go_keep | (go_split_ands; (repeat' apply And.intro) <;> first | assumption | (with_reducible exact kp hb4 (by assumption)) | (with_reducible exact kp hb3 (by assumption)) | (with_reducible exact kp hb2 (by assumption)) | (with_reducible exact kp hb1 (by assumption))))
    (first
      | (go_at_call 104; (with_reducible refine (X0.out _).mono ?_); rintro en w1 ⟨rfl, hb1⟩)
      | (go_at_call 104; (with_reducible refine (X1.out _).mono ?_); rintro en w2 ⟨rfl, hb2⟩)
      | (go_at_call 104; (with_reducible refine (X2.out _).mono ?_); rintro en w3 ⟨rfl, hb3⟩)
      | (go_at_call 104; (with_reducible refine (X3.out _).mono ?_); rintro en w4 ⟨rfl, hb4⟩; have HB4 := bt (bt (bt (bd (br wA) hb1) hb2) hb3) hb4; have RR := Lib.hid ((HR.out.next HB4 hgA).put ⟨p0, p1, p2, p3⟩); have x0 := kp HB4 x0; have x1 := kp HB4 x1; have x2 := kp HB4 x2; have x3 := kp HB4 x3; have y0 := (HB4.frozen (p := ⟨r, 0, none⟩) hRl).trans y0; have y1 := (HB4.frozen (p := ⟨r, 1, none⟩) hRl).trans y1; have y2 := (HB4.frozen (p := ⟨r, 2, none⟩) hRl).trans y2; have y3 := (HB4.frozen (p := ⟨r, 3, none⟩) hRl).trans y3))
  go_wp2_with fail
  have rr := RR.out
  unfold set4 at rr
  simp only at rr
  generalize (((w4.setCell ⟨r, 0, none⟩ (.int .u64 (wi p0))).setCell ⟨r, 1, none⟩ (.int .u64 (wi p1))).setCell ⟨r, 2, none⟩ (.int .u64 (wi p2))).setCell ⟨r, 3, none⟩ (.int .u64 (wi p3)) = wf at *
  have z0 := rr.c0; have z1 := rr.c1; have z2 := rr.c2; have z3 := rr.c3
  simp only at z0 z1 z2 z3
  refine bodyPost_ret (v := .agg #[.int .u64 (wi p0), .int .u64 (wi p1), .int .u64 (wi p2), .int .u64 (wi p3)]) (by simp [results, Tryd.results96, go_sem, z0, z1, z2, z3]) rfl ⟨rfl, by rw [hgs]; exact rr.below⟩
set_option maxHeartbeats 2000000 in
theorem takenOf_any (v : S) (m : W64) (w : World) : Calls Tryd.prog 98 #[aS v, .int .u64 (wi m)] w fun e w' => e = .returned (aS (take v m)) ∧ Below w.heap.size w w' := by
  have G := Lib.hid (two_v w v 126 126)
  have R := Lib.hid (two_r w v 126 126)
  have hs : w.heap.size ≤ (two w v 126 126).heap.size := by unfold two; simp; omega
  have e1 := xored_any v.d m
  have e2 := roundOf_any ⟨v.a, v.b, v.c, v.d ^^^ m⟩
  obtain ⟨r1, h1⟩ : ∃ x, round ⟨v.a, v.b, v.c, v.d ^^^ m⟩ = x := ⟨_, rfl⟩
  obtain ⟨r2, h2⟩ : ∃ x, round r1 = x := ⟨_, rfl⟩
  have e3 := roundOf_any r1
  have e4 := xored_any r2.a m
  have hT : take v m = ⟨r2.a ^^^ m, r2.b, r2.c, r2.d⟩ := by unfold take; rw [h1, h2]
  rw [h1] at e2; rw [h2] at e3
  have HT := Lib.hid hT
  clear h1 h2 hT
  unfold aS at *
  simp only at e2
  have hne : w.heap.size + 1 ≠ w.heap.size := by omega
  have hne' : w.heap.size ≠ w.heap.size + 1 := by omega
  go_enter Tryd.func98, Tryd.ntmps98
  go_wp2_with fail
  refine (e1 _).mono ?_
  rintro en w1 ⟨rfl, hb⟩
  have G1 := Lib.hid (G.out.next hb hs)
  have R1 := Lib.hid (R.out.next hb hs)
  clear G R hb hs
  have b0 := G1.out.c0; have b1 := G1.out.c1; have b2 := G1.out.c2; have b3 := G1.out.c3
  have f0 := G1.out.fr 0; have f1 := G1.out.fr 1; have f2 := G1.out.fr 2; have f3 := G1.out.fr 3
  have sz1 : w.heap.size ≤ w1.heap.size := G1.out.below.size
  have G1' := Lib.hid (G1.out.set3 (v.d ^^^ m))
  have R1' := Lib.hid (R1.out.far hne' (Nat.le_refl _) 3 (.int .u64 (wi (v.d ^^^ m))))
  have sz1' : w.heap.size ≤ (w1.setCell ⟨w.heap.size, 3, none⟩ (.int .u64 (wi (v.d ^^^ m)))).heap.size := by simpa using sz1
  go_wp2_with fail
  refine (e2 _).mono ?_
  rintro en w2 ⟨rfl, hb⟩
  have G2 := Lib.hid (G1'.out.next hb sz1')
  have R2 := Lib.hid (R1'.out.next hb sz1')
  clear hb G1 R1 G1' R1' sz1' sz1 b0 b1 b2 b3 f0 f1 f2 f3
  go_wp2_with fail
  refine (e3 _).mono ?_
  rintro en w3 ⟨rfl, hb⟩
  have sz2 : w.heap.size ≤ w2.heap.size := G2.out.below.size
  have G3 := Lib.hid (G2.out.next hb sz2)
  have R3 := Lib.hid (R2.out.next hb sz2)
  clear hb G2 R2 sz2
  have b0 := G3.out.c0; have b1 := G3.out.c1; have b2 := G3.out.c2; have b3 := G3.out.c3
  have f0 := G3.out.fr 0; have f1 := G3.out.fr 1; have f2 := G3.out.fr 2; have f3 := G3.out.fr 3
  have sz3 : w.heap.size ≤ w3.heap.size := G3.out.below.size
  have G3' := Lib.hid (G3.out.put r2)
  have R3' := Lib.hid (R3.out.far4 hne' (Nat.le_refl _) r2)
  have sz3' : w.heap.size ≤ (set4 w3 w.heap.size r2).heap.size := by unfold set4; simpa using sz3
  clear G3 R3
  unfold set4 at G3' R3' sz3'
  go_wp2_with fail
  refine (e4 _).mono ?_
  rintro en w4 ⟨rfl, hb⟩
  have G4 := Lib.hid (G3'.out.next hb sz3')
  have R4 := Lib.hid (R3'.out.next hb sz3')
  clear hb G3' R3' sz3' sz3 b0 b1 b2 b3 f0 f1 f2 f3
  have b0 := G4.out.c0; have b1 := G4.out.c1; have b2 := G4.out.c2; have b3 := G4.out.c3
  have f0 := G4.out.fr 0; have f1 := G4.out.fr 1; have f2 := G4.out.fr 2; have f3 := G4.out.fr 3
  have R4' := Lib.hid (R4.out.far hne' (Nat.le_refl _) 0 (.int .u64 (wi (r2.a ^^^ m))))
  have G4' := Lib.hid (G4.out.set0 (r2.a ^^^ m))
  have x0 := R4.out.c0; have x1 := R4.out.c1; have x2 := R4.out.c2; have x3 := R4.out.c3
  have y0 := R4.out.fr 0; have y1 := R4.out.fr 1; have y2 := R4.out.fr 2; have y3 := R4.out.fr 3
  simp only at x0 x1 x2 x3
  have z : wi 0 = 0 := rfl
  rw [z] at x0 x1 x2 x3
  have RR := Lib.hid (R4'.out.put ⟨r2.a ^^^ m, r2.b, r2.c, r2.d⟩)
  clear G4 R4 R4' G4' z
  go_wp2
  have rr := RR.out
  unfold set4 at rr
  simp only at rr
  generalize ((((w4.setCell ⟨w.heap.size, 0, none⟩ (.int .u64 (wi (r2.a ^^^ m)))).setCell ⟨w.heap.size + 1, 0, none⟩ (.int .u64 (wi (r2.a ^^^ m)))).setCell ⟨w.heap.size + 1, 1, none⟩ (.int .u64 (wi r2.b))).setCell ⟨w.heap.size + 1, 2, none⟩ (.int .u64 (wi r2.c))).setCell ⟨w.heap.size + 1, 3, none⟩ (.int .u64 (wi r2.d)) = wf at *
  have z0 := rr.c0; have z1 := rr.c1; have z2 := rr.c2; have z3 := rr.c3
  simp only at z0 z1 z2 z3
  rw [HT.out]
  refine bodyPost_ret (v := .agg #[.int .u64 (wi (r2.a ^^^ m)), .int .u64 (wi r2.b), .int .u64 (wi r2.c), .int .u64 (wi r2.d)]) (by simp [results, Tryd.results98, go_sem, z0, z1, z2, z3]) rfl ⟨rfl, rr.below⟩
set_option maxHeartbeats 2000000 in
theorem finishOf_any (v : S) (w : World) : Calls Tryd.prog 99 #[aS v] w fun e w' => e = .returned (.int .u64 (wi (finish v))) ∧ Below w.heap.size w w' := by
  have G := Lib.hid (st4 w v 126)
  have hs : w.heap.size ≤ (w.alloc (.cells #[.int .u64 (wi v.a), .int .u64 (wi v.b), .int .u64 (wi v.c), .int .u64 (wi v.d)] 126)).heap.size := by simp
  have e1 := xored_any v.c 255
  have e2 := roundOf_any ⟨v.a, v.b, v.c ^^^ 255, v.d⟩
  obtain ⟨r1, h1⟩ : ∃ x, round ⟨v.a, v.b, v.c ^^^ 255, v.d⟩ = x := ⟨_, rfl⟩
  obtain ⟨r2, h2⟩ : ∃ x, round r1 = x := ⟨_, rfl⟩
  obtain ⟨r3, h3⟩ : ∃ x, round r2 = x := ⟨_, rfl⟩
  obtain ⟨r4, h4⟩ : ∃ x, round r3 = x := ⟨_, rfl⟩
  have e3 := roundOf_any r1
  have e4 := roundOf_any r2
  have e5 := roundOf_any r3
  have hT : finish v = (r4.a ^^^ r4.b) ^^^ (r4.c ^^^ r4.d) := by unfold finish; rw [h1, h2, h3, h4]; simp [BitVec.xor_assoc]
  rw [h1] at e2; rw [h2] at e3; rw [h3] at e4; rw [h4] at e5
  have HT := Lib.hid hT
  clear h1 h2 h3 h4 hT
  unfold aS at *
  simp only at e2
  have z255 : wi 255 = 255 := rfl
  rw [z255] at e1
  go_enter Tryd.func99, Tryd.ntmps99
  go_wp2_with fail
  refine (e1 _).mono ?_
  rintro en w1 ⟨rfl, hb⟩
  have G1 := Lib.hid (G.out.next hb hs)
  clear G hb hs
  have b0 := G1.out.c0; have b1 := G1.out.c1; have b2 := G1.out.c2; have b3 := G1.out.c3
  have f0 := G1.out.fr 0; have f1 := G1.out.fr 1; have f2 := G1.out.fr 2; have f3 := G1.out.fr 3
  have sz1 : w.heap.size ≤ w1.heap.size := G1.out.below.size
  have G1' := Lib.hid (G1.out.set2 (v.c ^^^ 255))
  have sz1' : w.heap.size ≤ (w1.setCell ⟨w.heap.size, 2, none⟩ (.int .u64 (wi (v.c ^^^ 255)))).heap.size := by simpa using sz1
  go_wp2_with fail
  refine (e2 _).mono ?_
  rintro en w2 ⟨rfl, hb⟩
  have G2 := Lib.hid (G1'.out.next hb sz1')
  have sz2 : w.heap.size ≤ w2.heap.size := G2.out.below.size
  clear hb G1 G1' sz1' sz1 b0 b1 b2 b3 f0 f1 f2 f3
  go_wp2_with fail
  refine (e3 _).mono ?_
  rintro en w3 ⟨rfl, hb⟩
  have G3 := Lib.hid (G2.out.next hb sz2)
  have sz3 : w.heap.size ≤ w3.heap.size := G3.out.below.size
  clear hb G2 sz2
  go_wp2_with fail
  refine (e4 _).mono ?_
  rintro en w4 ⟨rfl, hb⟩
  have G4 := Lib.hid (G3.out.next hb sz3)
  have sz4 : w.heap.size ≤ w4.heap.size := G4.out.below.size
  clear hb G3 sz3
  go_wp2_with fail
  refine (e5 _).mono ?_
  rintro en w5 ⟨rfl, hb⟩
  have G5 := Lib.hid (G4.out.next hb sz4)
  clear hb G4 sz4
  have b0 := G5.out.c0; have b1 := G5.out.c1; have b2 := G5.out.c2; have b3 := G5.out.c3
  have f0 := G5.out.fr 0; have f1 := G5.out.fr 1; have f2 := G5.out.fr 2; have f3 := G5.out.fr 3
  have G5' := Lib.hid (G5.out.put r4)
  clear G5
  unfold set4 at G5'
  have X1 := Lib.hid (xored_any r4.a r4.b)
  have X2 := Lib.hid (xored_any r4.c r4.d)
  have X3 := Lib.hid (xored_any (r4.a ^^^ r4.b) (r4.c ^^^ r4.d))
  go_wp2_with fail
  generalize ((((w5.setCell ⟨w.heap.size, 0, none⟩ (.int .u64 (wi r4.a))).setCell ⟨w.heap.size, 1, none⟩ (.int .u64 (wi r4.b))).setCell ⟨w.heap.size, 2, none⟩ (.int .u64 (wi r4.c))).setCell ⟨w.heap.size, 3, none⟩ (.int .u64 (wi r4.d))) = wx at *
  clear b0 b1 b2 b3 f0 f1 f2 f3 e1 e2 e3 e4 e5 z255
  have c0 := G5'.out.c0; have c1 := G5'.out.c1; have c2 := G5'.out.c2; have c3 := G5'.out.c3
  have HB := Lib.hid G5'.out.below
  have hsz : w.heap.size ≤ wx.heap.size := HB.out.size
  clear G5'
  generalize r4.a = a at *
  generalize r4.b = b at *
  generalize r4.c = c at *
  generalize r4.d = d at *
  generalize hgs : w.heap.size = g at *
  go_region_held3 (fun w' => w'.cell? ⟨g, 0, none⟩ = some (.int .u64 (wi a)) ∧ w'.cell? ⟨g, 1, none⟩ = some (.int .u64 (wi b)) ∧ w'.cell? ⟨g, 2, none⟩ = some (.int .u64 (wi c)) ∧ w'.cell? ⟨g, 3, none⟩ = some (.int .u64 (wi d)))
    (first | go_keep | (go_split_ands; (repeat' apply And.intro) <;> first | assumption | (with_reducible exact kp hb3 (by assumption)) | (with_reducible exact kp hb2 (by assumption)) | (with_reducible exact kp hb1 (by assumption))))
    (first
      | (go_at_call 104; (with_reducible refine (X1.out _).mono ?_); rintro en u1 ⟨rfl, hb1⟩)
      | (go_at_call 104; (with_reducible refine (X2.out _).mono ?_); rintro en u2 ⟨rfl, hb2⟩)
      | (go_at_call 104; (with_reducible refine (X3.out _).mono ?_); rintro en u3 ⟨rfl, hb3⟩))
  have hend := bt (bt (bd (br wx) hb1) hb2) hb3
  go_wp2
  go_ret
  exact ⟨by rw [HT.out]; rfl, by rw [hgs]; exact HB.out.trans (hend.mono hsz)⟩
end Tg
end Go.Proofs.YtdfdjampodkpgaaDoor
end

/-! TagRef4 -/
section
/- The document's words of a text. -/
set_option linter.unusedSimpArgs false
set_option linter.unusedVariables false
namespace Go.Proofs.YtdfdjampodkpgaaDoor
open Go.RowKit
namespace Tg
theorem run_idx (s : ByteArray) (p : Nat) (h : p < s.size) (w : World) : (Instr.index 9 (.string s) (.int .i64 (p : Int))).run Tryd.prog w = .ok (.int .u8 (((s.data.toList.getD p 0).toNat : Nat) : Int)) w := by
  rw [run_index_string w 9 s .i64 p Tryd.underlying9, dif_pos ⟨by omega, by omega⟩]
  congr 3
  have h1 : ((p : Int)).toNat = p := by simp
  simp only [h1]
  rw [List.getD_eq_getElem?_getD, List.getElem?_eq_getElem (by simpa using h)]
  simp; rfl
theorem take_w (l : List UInt8) (j : Nat) (h : 8 * j + 8 ≤ l.length) : ((words l).map wi).take (j + 1) = ((words l).map wi).take j ++ [((U l 0 (8 * j) 8 : Nat) : Int)] := by
  obtain ⟨hj, e⟩ := word_whole l j h
  rw [List.take_succ_eq_append_getElem (by simpa using hj)]
  simp [e]
theorem take_last (l : List UInt8) : (words l).map wi = ((words l).map wi).take (l.length / 8) ++ [((U l (l.length % 256) (8 * (l.length / 8)) 7 : Nat) : Int)] := by
  obtain ⟨hj, e⟩ := word_last l
  have hl := words_len l
  have h1 : ((words l).map wi).take (l.length / 8 + 1) = (words l).map wi := List.take_of_length_le (by simp [hl])
  have h2 := List.take_succ_eq_append_getElem (l := (words l).map wi) (i := l.length / 8) (by simpa using hj)
  rw [h1] at h2
  refine h2.trans ?_
  simp [e]
theorem take_len (l : List UInt8) (j : Nat) (h : j ≤ l.length / 8) : (((words l).map wi).take j).length = j := by
  rw [List.length_take]; simp [words_len]; omega
theorem U_bd0 (l : List UInt8) (m p : Nat) (h : m ≤ 7) : U l 0 p m ≤ 72057594037927935 := by
  have h1 := U_lt0 l m p
  have h2 : 2 ^ (8 * m) ≤ 2 ^ 56 := Nat.pow_le_pow_right (by omega) (by omega)
  omega
theorem U_bdt (l : List UInt8) (t m p : Nat) (ht : t < 256) (h : m ≤ 6) : U l t p m ≤ 72057594037927935 := by
  have h1 := U_lt l t ht m p
  have h2 : 2 ^ (8 * (m + 1)) ≤ 2 ^ 56 := Nat.pow_le_pow_right (by omega) (by omega)
  omega
set_option maxHeartbeats 2000000 in
theorem wordsOf_any (s : ByteArray) (w : World) (hs : s.size ≤ 140737488351232) : Calls Tryd.prog 97 #[.string s] w fun e w' => ∃ v, e = .returned v ∧ OwnU w' w.heap.size v ((words s.data.toList).map wi) ∧ Below w.heap.size w w' := by
  have hll : s.data.toList.length = s.size := by simp
  have HLL := Lib.hid hll; clear hll
  have HN := Lib.hid (own_nilU w w.heap.size)
  go_enter Tryd.func97, Tryd.ntmps97
  go_wp2
  go_loopw [3, 4] (fun v f wr => ∃ j : Nat, j ≤ s.size / 8 ∧ f = .int .i64 ((8 * j : Nat) : Int) ∧ OwnU wr w.heap.size v (((words s.data.toList).map wi).take j) ∧ Below w.heap.size w wr) (fun _ f _ => s.size - (intOf f).toNat)
  case atStart => exact ⟨0, Nat.zero_le _, rfl, HN.out, br _⟩
  case round =>
    obtain ⟨j, hj, rfl, hown, hbw⟩ := hrel
    obtain ⟨F, hF⟩ : ∃ F : Nat, F = 8 * j := ⟨_, rfl⟩
    rw [← hF]
    have hFb : F ≤ 140737488351232 := by omega
    have htl := take_len s.data.toList j (by have := HLL.out; omega)
    have HO := Lib.hid hown; have HB := Lib.hid hbw; have HF := Lib.hid hF
    by_cases hlt : F + 8 ≤ s.size
    · have hsn := take_w s.data.toList j (by have := HLL.out; omega)
      rw [← hF] at hsn
      have HSN := Lib.hid hsn
      have HTL := Lib.hid htl
      have hj8 : F + 8 = 8 * (j + 1) := by omega
      have HJ8 := Lib.hid hj8
      have hj1 : j + 1 ≤ s.size / 8 := by omega
      have HJ1 := Lib.hid hj1
      clear hsn htl hown hbw HN hF hj8 hj hj1
      go_wp2
      go_loopw [5, 6] (fun n k wq => ∃ m : Nat, m ≤ 8 ∧ k = .int .i64 (7 - (m : Int)) ∧ n = .int .u64 ((U s.data.toList 0 (F + 8 - m) m : Nat) : Int) ∧ Below wr.heap.size wr wq) (fun _ k _ => (intOf k + 1).toNat)
      case atStart => exact ⟨0, by omega, rfl, rfl, br wr⟩
      case round =>
        obtain ⟨m, hm, rfl, rfl, hbq⟩ := hrel
        by_cases hlm : m ≤ 7
        · obtain ⟨kk, hkk⟩ : ∃ kk : Nat, (7 : Int) - m = kk := ⟨7 - m, by omega⟩
          rw [hkk]
          obtain ⟨p, hp⟩ : ∃ p : Nat, p = F + kk := ⟨_, rfl⟩
          have hps : p < s.size := by omega
          have hix := run_idx s p hps
          have hc := (s.data.toList.getD p 0).toNat_lt
          have hU : U s.data.toList 0 (F + 8 - (m + 1)) (m + 1) = 256 * U s.data.toList 0 (F + 8 - m) m + (s.data.toList.getD p 0).toNat := by
            rw [U, show F + 8 - (m + 1) + 1 = F + 8 - m by omega, show F + 8 - (m + 1) = p by omega]
          have hNb := U_bd0 s.data.toList m (F + 8 - m) hlm
          have HU := Lib.hid hU; clear hU
          generalize (s.data.toList.getD p 0).toNat = c at *
          generalize U s.data.toList 0 (F + 8 - m) m = N at *
          have hfk : (F : Int) + (kk : Int) = (p : Int) := by omega
          have hp0 : (p : Int) ≤ 140737488351232 := by omega
          have hk0 : (0 : Int) ≤ (kk : Int) := by omega
          have hk7 : (kk : Int) ≤ 7 := by omega
          have hc' : (c : Int) ≤ 255 := by omega
          have hNb' : (N : Int) ≤ 72057594037927935 := by omega
          clear hp hps HSN HO HB HTL hlt hFb
          go_wp2
          go_roundw
          case rel => exact ⟨m + 1, by omega, by go_num, by rw [HU.out]; go_num, by first | exact hbq | exact bn hbq _⟩
          case measure => first | (simp [intOf]; done) | (simp [intOf]; omega)
        · obtain rfl : m = 8 := by omega
          have hg : U s.data.toList 0 (F + 8 - 8) 8 = U s.data.toList 0 F 8 := by rw [show F + 8 - 8 = F by omega]
          rw [hg]
          generalize U s.data.toList 0 F 8 = Y at *
          generalize ((words s.data.toList).map wi).take j = Xs at *
          clear hg
          have HO2 := Lib.hid (HO.out.next hbq)
          have HB2 := Lib.hid (bt HB.out hbq)
          clear HO HB hbq
          go_wp2_with (at_builtin; refine app_u rfl (.tmp 30) (.tmp 32) rfl w.heap.size _ Xs rfl (HO2.out.next ((br _).alloc (Nat.le_refl _) (.cells #[.int .u64 (Y : Int)] 43))) _ 1 (Y : Int) rfl (by rw [World.cell?_alloc_mark]; rfl) (by have := HTL.out; have := HJ1.out; omega) (by have := HB2.out.size; simp; omega) ?_; intro v1 w5 hown1 hb5; have HO1 := Lib.hid hown1; have HB5 := Lib.hid ((HB2.out.alloc HB2.out.size _).trans hb5); clear hown1 hb5)
          go_roundw
          case rel => exact ⟨j + 1, HJ1.out, by rw [← HJ8.out]; go_num, by rw [HSN.out]; exact HO1.out, HB5.out⟩
          case measure => simp [intOf]; omega
    · obtain rfl : j = s.size / 8 := by omega
      have htl2 := take_last s.data.toList
      rw [HLL.out] at htl2
      rw [← hF] at htl2
      have hleft : s.size - F = s.size % 8 := by omega
      have hF2 : F ≤ s.size := by omega
      have hF3 : s.size < F + 8 := by omega
      have ht : s.size % 256 < 256 := by omega
      have HT2 := Lib.hid htl2; have HTL := Lib.hid htl; have HLE := Lib.hid hleft
      have hlt : ¬(F : Int) + 8 ≤ (s.size : Int) := by omega
      clear htl2 htl hleft hown hbw hF hj HN
      obtain ⟨L, hL⟩ : ∃ L : Nat, L = s.size % 8 := ⟨_, rfl⟩
      obtain ⟨T, hT⟩ : ∃ T : Nat, T = s.size % 256 := ⟨_, rfl⟩
      rw [← hT] at HT2 ht
      rw [← hL] at HLE
      have q1 : (s.size : Int).tmod 8 = (L : Int) := by rw [Int.tmod_eq_emod_of_nonneg (by omega)]; omega
      have q2 : (s.size : Int).tmod 256 = (T : Int) := by rw [Int.tmod_eq_emod_of_nonneg (by omega)]; omega
      have q1' : (s.size : Int) % 8 = (L : Int) := by omega
      have q2' : (s.size : Int) % 256 = (T : Int) := by omega
      have hL7 : L ≤ 7 := by omega
      have hLF : s.size = F + L := by have := HLE.out; omega
      have HLF := Lib.hid hLF
      clear hL hT HLE hLF
      go_wp2
      go_loopw [7, 9] (fun n k wq => ∃ m : Nat, m ≤ 7 ∧ k = .int .i64 (6 - (m : Int)) ∧ n = .int .u64 ((U s.data.toList T (F + 7 - m) m : Nat) : Int) ∧ Below wr.heap.size wr wq) (fun _ k _ => (intOf k + 1).toNat)
      case atStart => exact ⟨0, by omega, rfl, rfl, br wr⟩
      case round =>
        obtain ⟨m, hm, rfl, rfl, hbq⟩ := hrel
        by_cases hlm : m ≤ 6
        · obtain ⟨kk, hkk⟩ : ∃ kk : Nat, (6 : Int) - m = kk := ⟨6 - m, by omega⟩
          rw [hkk]
          obtain ⟨p, hp⟩ : ∃ p : Nat, p = F + kk := ⟨_, rfl⟩
          have hU : U s.data.toList T (F + 7 - (m + 1)) (m + 1) = 256 * U s.data.toList T (F + 7 - m) m + (s.data.toList.getD p 0).toNat := by
            rw [U, show F + 7 - (m + 1) + 1 = F + 7 - m by omega, show F + 7 - (m + 1) = p by omega]
          have hNb := U_bdt s.data.toList T m (F + 7 - m) ht hlm
          have hk0 : (0 : Int) ≤ (kk : Int) := by omega
          have hk7 : (kk : Int) ≤ 6 := by omega
          by_cases hkL : kk < L
          · have hps : p < s.size := by have := HLF.out; omega
            have hix := run_idx s p hps
            have hc := (s.data.toList.getD p 0).toNat_lt
            have HU := Lib.hid hU; clear hU
            generalize (s.data.toList.getD p 0).toNat = c at *
            generalize U s.data.toList T (F + 7 - m) m = N at *
            have e1 : (s.size : Int) - (L : Int) = (F : Int) := by have := HLF.out; omega
            have hfk : (F : Int) + (kk : Int) = (p : Int) := by omega
            have hp0 : (p : Int) ≤ 140737488351232 := by omega
            have hc' : (c : Int) ≤ 255 := by omega
            have hNb' : (N : Int) ≤ 72057594037927935 := by omega
            clear hp hps HO HB HTL hlt hFb HT2 q1 q2 q1' q2'
            go_wp2
            go_roundw
            case rel => exact ⟨m + 1, by omega, by go_num, by rw [HU.out]; go_num, by first | exact hbq | exact bn hbq _⟩
            case measure => first | (simp [intOf]; done) | (simp [intOf]; omega)
          · have hz : s.data.toList.getD p 0 = 0 := by
              rw [List.getD_eq_getElem?_getD, List.getElem?_eq_none (by have := HLF.out; have := HLL.out; omega)]; rfl
            rw [hz] at hU
            have HU := Lib.hid hU; clear hU
            generalize U s.data.toList T (F + 7 - m) m = N at *
            have hNb' : (N : Int) ≤ 72057594037927935 := by omega
            have hkL' : ¬(kk : Int) < (L : Int) := by omega
            clear hp HO HB HTL hlt hFb HT2 q1 q2 q1' q2'
            go_wp2
            go_roundw
            case rel => exact ⟨m + 1, by omega, by go_num, by rw [HU.out]; go_num, by first | exact hbq | exact bn hbq _⟩
            case measure => first | (simp [intOf]; done) | (simp [intOf]; omega)
        · obtain rfl : m = 7 := by omega
          rw [show F + 7 - 7 = F by omega]
          generalize U s.data.toList T F 7 = Y at *
          generalize ((words s.data.toList).map wi).take (s.size / 8) = Xs at *
          have HO2 := Lib.hid (HO.out.next hbq)
          have HB2 := Lib.hid (bt HB.out hbq)
          clear HO HB hbq
          go_wp2_with (at_builtin; refine app_u rfl (.tmp 61) (.tmp 63) rfl w.heap.size _ Xs rfl (HO2.out.next ((br _).alloc (Nat.le_refl _) (.cells #[.int .u64 (Y : Int)] 43))) _ 1 (Y : Int) rfl (by rw [World.cell?_alloc_mark]; rfl) (by have := HTL.out; omega) (by have := HB2.out.size; simp; omega) ?_; intro v1 w5 hown1 hb5; have HO1 := Lib.hid hown1; have HB5 := Lib.hid ((HB2.out.alloc HB2.out.size _).trans hb5); clear hown1 hb5)
          go_wp2
          go_ret
          exact ⟨_, rfl, by rw [HT2.out]; exact HO1.out, HB5.out⟩
end Tg
end Go.Proofs.YtdfdjampodkpgaaDoor
end

/-! TagRef5 -/
section
/- The document's tag of a text. -/
set_option linter.unusedSimpArgs false
set_option linter.unusedVariables false
namespace Go.Proofs.YtdfdjampodkpgaaDoor
open Go.RowKit
namespace Tg
theorem takenOf_x (v : S) (m : W64) (w : World) : Calls Tryd.prog 98 #[.agg #[.int .u64 (wi v.a), .int .u64 (wi v.b), .int .u64 (wi v.c), .int .u64 (wi v.d)], .int .u64 (wi m)] w fun e w' => e = .returned (.agg #[.int .u64 (wi (take v m).a), .int .u64 (wi (take v m).b), .int .u64 (wi (take v m).c), .int .u64 (wi (take v m).d)]) ∧ Below w.heap.size w w' := takenOf_any v m w
theorem rd_own {w : World} {base : Nat} {v : Value} {l : List W64} (h : OwnU w base v (l.map wi)) (hp : 0 < l.length) : ∃ g cap, v = .slice (some ⟨g, 0, none⟩) l.length cap ∧ base ≤ g ∧ l.length ≤ cap ∧ cap ≤ maxLen ∧ g < w.heap.size ∧ ∀ i, i < l.length → w.cell? ⟨g, i, none⟩ = some (.int .u64 (wi (l.getD i 0))) := by
  have hl : (l.map wi).length = l.length := by simp
  obtain ⟨a0, cap', e0, hc1, hc2, hc3⟩ := h.rd
  obtain ⟨b, off, rfl, hlt, hcells⟩ := hc3 (by omega)
  obtain ⟨_, ⟨_, h0⟩ | ⟨g, cap, cur, h1, h2, h3, h4, h5, h6, h7⟩⟩ := h
  · omega
  · rw [e0] at h1
    injection h1 with h1 _ h1'
    injection h1 with h1
    injection h1 with hb ho
    subst hb; subst ho; subst h1'
    refine ⟨b, cap', by rw [e0, hl], h2, by omega, h5, hlt, fun i hi => ?_⟩
    have := eU_at hcells i (by omega)
    rw [Nat.zero_add] at this
    rw [this, List.getD_eq_getElem?_getD, List.getElem?_eq_getElem hi]
    simp
set_option maxHeartbeats 2000000 in
theorem tagOf_any (a b : W64) (s : ByteArray) (w : World) (hs : s.size ≤ 140737488351232) : Calls Tryd.prog 82 #[aK a b, .string s] w fun e w' => e = .returned (.int .u64 (wi (tagF a b s.data.toList))) ∧ Below w.heap.size w w' := by
  unfold aK
  go_enter Tryd.func82, Tryd.ntmps82
  go_wp2_with fail
  refine (startOf_any a b _).mono ?_
  rintro en w1 ⟨rfl, hb1⟩
  obtain ⟨st, hst⟩ : ∃ st, start a b = st := ⟨_, rfl⟩
  rw [hst]
  unfold aS
  have HST := Lib.hid hst; clear hst
  have hB1 : Below w.heap.size w w1 := bt ((br w).alloc (Nat.le_refl _) _) hb1
  have h4 := st4 w1 st 126
  have H4 := Lib.hid h4; clear h4
  go_wp2_with fail
  refine (wordsOf_any s _ hs).mono ?_
  rintro en w2 ⟨v, rfl, hv, hb2⟩
  have hwl : (words s.data.toList).length = s.size / 8 + 1 := by rw [words_len]; simp
  obtain ⟨g, cap, rfl, hge, hc1, hc2, hlt, hcells⟩ := rd_own hv (by omega)
  have hNb : (words s.data.toList).length ≤ 140737488355328 := by omega
  have h5 := H4.out.next hb2 (by simp)
  obtain ⟨N, hN⟩ : ∃ N, N = (words s.data.toList).length := ⟨_, rfl⟩
  rw [← hN] at hc1 hcells hNb ⊢
  have HW := Lib.hid hcells; have HN := Lib.hid hN
  have hgV : g ≠ w1.heap.size := by simp at hge; omega
  have hV : w1.heap.size < w2.heap.size := h5.lt
  have H5 := Lib.hid h5
  clear hcells hN h5 H4 hb2 hv hwl hge
  go_wp2
  go_loopw [7] (fun i wr => ∃ k : Nat, k ≤ N ∧ i = .int .i64 k ∧ S4 w1.heap.size w1 wr w1.heap.size (((words s.data.toList).take k).foldl take st) ∧ g < wr.heap.size ∧ RowKit.Hid (∀ i, i < N → wr.cell? ⟨g, i, none⟩ = some (.int .u64 (wi ((words s.data.toList).getD i 0))))) (fun i _ => N - (intOf i).toNat)
  case atStart => exact ⟨0, Nat.zero_le _, rfl, H5.out, hlt, HW⟩
  case round =>
    obtain ⟨k, hk, rfl, hS, hgl, HC⟩ := hrel
    clear H5 HW
    have c0 := hS.c0; have c1 := hS.c1; have c2 := hS.c2; have c3 := hS.c3
    have q0 := hS.fr 0; have q1 := hS.fr 1; have q2 := hS.fr 2; have q3 := hS.fr 3
    by_cases hkN : k < N
    · have ck := HC.out k hkN
      have hsn := fold_snoc (words s.data.toList) k (by have := HN.out; omega) st
      have HSN := Lib.hid hsn; clear hsn
      generalize ((words s.data.toList).take k).foldl take st = v at *
      generalize (words s.data.toList).getD k 0 = m at *
      have HS := Lib.hid hS
      have hsz := hS.below.size
      clear hS
      have i0 : (0 : Int) ≤ (k : Int) := by omega
      have i1 : (k : Int) < (N : Int) := by omega
      go_wp2_with fail
      go_region_with ((go_at_call 98; refine (takenOf_x v m _).mono ?_; rintro en w4 ⟨rfl, hb4⟩; have f0 := (hb4.frozen (p := ⟨w1.heap.size, 0, none⟩) HS.out.lt).trans q0; have f1 := (hb4.frozen (p := ⟨w1.heap.size, 1, none⟩) HS.out.lt).trans q1; have f2 := (hb4.frozen (p := ⟨w1.heap.size, 2, none⟩) HS.out.lt).trans q2; have f3 := (hb4.frozen (p := ⟨w1.heap.size, 3, none⟩) HS.out.lt).trans q3; have d0 := (hb4.cell (p := ⟨w1.heap.size, 0, none⟩) HS.out.lt).trans c0; have d1 := (hb4.cell (p := ⟨w1.heap.size, 1, none⟩) HS.out.lt).trans c1; have d2 := (hb4.cell (p := ⟨w1.heap.size, 2, none⟩) HS.out.lt).trans c2; have d3 := (hb4.cell (p := ⟨w1.heap.size, 3, none⟩) HS.out.lt).trans c3; have hb4 := Lib.hid hb4))
      all_goals
        go_wp2
        have h6 := HS.out.next (bd (br wr) hb4.out) hsz
        have h7 := Lib.hid (h6.put (take v m))
        have hgl3 : g < w4.heap.size := kl (bd (br wr) hb4.out) hgl
        have hC7 : RowKit.Hid (∀ i, i < N → (set4 w4 w1.heap.size (take v m)).cell? ⟨g, i, none⟩ = some (.int .u64 (wi ((words s.data.toList).getD i 0)))) := Lib.hid (fun i hi => (set4_far w4 _ _ g i hgV).trans (((bd (br wr) hb4.out).cell (p := ⟨g, i, none⟩) hgl).trans (HC.out i hi)))
        have hsz7 : g < (set4 w4 w1.heap.size (take v m)).heap.size := by unfold set4; simpa using hgl3
        clear h6 c0 c1 c2 c3 d0 d1 d2 d3
        go_roundw
        case rel => exact ⟨k + 1, by omega, by go_num, by rw [HSN.out]; exact h7.out, hsz7, hC7⟩
        case measure => simp [intOf]; omega
    · have hkN' : k = (words s.data.toList).length := by have := HN.out; omega
      have hall : ((words s.data.toList).take k).foldl take st = (words s.data.toList).foldl take st := by rw [hkN', List.take_length]
      have hres : finish (((words s.data.toList).take k).foldl take st) = tagF a b s.data.toList := by rw [hall, ← HST.out]; rfl
      have HR := Lib.hid hres
      have hsz := hS.below
      clear hres hall hkN'
      generalize ((words s.data.toList).take k).foldl take st = v at *
      clear hS
      go_wp2_with fail
      refine (finishOf_any v _).mono ?_
      rintro en w3 ⟨rfl, hb3⟩
      go_wp2
      go_ret
      exact ⟨by rw [← HR.out]; rfl, bt (hB1.trans (hsz.mono hB1.size)) hb3⟩
end Tg
end Go.Proofs.YtdfdjampodkpgaaDoor
end
