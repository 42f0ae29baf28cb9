/- Frames: plain facts on bytes of a number, and on texts cut. -/
import Derived.Test.YtlpefkbgdbiinaaFramePlain
set_option linter.unusedVariables false
namespace Go.Proofs.Ytlpefkbgdbiinaa
namespace Fr
/-- the low i bytes of a number, the great one first -/
def bigL (n : Nat) : Nat → List UInt8
  | 0 => []
  | i + 1 => UInt8.ofNat (n / 256 ^ i % 256) :: bigL n i
theorem bigL_len (n : Nat) : ∀ i, (bigL n i).length = i
  | 0 => rfl
  | i + 1 => by simp [bigL, bigL_len n i]
theorem big_hd (n : Nat) : bigL n 2 = hd n := by
  unfold bigL bigL bigL hd
  have e1 : UInt8.ofNat (n / 256 ^ 1 % 256) = UInt8.ofNat (n / 256) := by apply UInt8.toNat.inj; simp
  have e2 : UInt8.ofNat (n / 256 ^ 0 % 256) = UInt8.ofNat n := by apply UInt8.toNat.inj; simp
  rw [e1, e2]
def oneB (n : Int) : Bs := ⟨[UInt8.ofNat n.toNat].toArray⟩
theorem mk_big (n i : Nat) : mk (bigL n (i + 1)) = oneB ((n / 256 ^ i % 256 : Nat) : Int) ++ mk (bigL n i) := by
  apply ba_ext
  rw [ByteArray.data_append, Array.toList_append, mk_list, mk_list]
  have e : (oneB ((n / 256 ^ i % 256 : Nat) : Int)).data.toList = [UInt8.ofNat (n / 256 ^ i % 256)] := by
    unfold oneB; rw [Int.toNat_natCast]
  rw [e]; rfl
theorem big_div (n i : Nat) : n / 256 ^ i / 256 = n / 256 ^ (i + 1) := by rw [Nat.div_div_eq_div_mul, Nat.pow_succ]
def numL (l : List UInt8) : Nat := l.foldl (fun n b => n * 256 + b.toNat) 0
theorem numL_snoc (l : List UInt8) (b : UInt8) : numL (l ++ [b]) = numL l * 256 + b.toNat := by simp [numL]
theorem numL_lt : ∀ l : List UInt8, numL l < 256 ^ l.length := by
  intro l
  have : ∀ (m : Nat) (l : List UInt8), l.length = m → numL l < 256 ^ m := by
    intro m
    induction m with
    | zero => intro l h; have := List.eq_nil_of_length_eq_zero h; subst this; simp [numL]
    | succ m ih =>
      intro l h
      obtain ⟨l', b, rfl⟩ : ∃ l' b, l = l' ++ [b] := ⟨l.dropLast, l.getLast (by intro e; subst e; simp at h), (List.dropLast_concat_getLast _).symm⟩
      have := ih l' (by simpa using h)
      have hb := b.toNat_lt
      rw [numL_snoc, Nat.pow_succ]; omega
  exact this _ l rfl
theorem take_snoc (s : Bs) (k : Nat) (h : k < s.size) : s.data.toList.take (k + 1) = s.data.toList.take k ++ [s[k]] := by
  rw [List.take_succ_eq_append_getElem (by simpa using h)]; rfl
theorem ext_list (s : Bs) (a b : Nat) : (s.extract a b).data.toList = (s.data.toList.drop a).take (b - a) := by
  simp [List.extract_eq_take_drop]
/-- the two bytes ahead, as a number -/
def num2 (s : Bs) : Nat := numL (s.extract 0 2).data.toList
theorem num2_lt (s : Bs) : num2 s < 65536 := by
  have h := numL_lt (s.extract 0 2).data.toList
  have hl : (s.extract 0 2).data.toList.length ≤ 2 := by rw [ext_list]; simp; omega
  have : 256 ^ (s.extract 0 2).data.toList.length ≤ 256 ^ 2 := Nat.pow_le_pow_right (by omega) hl
  unfold num2; omega
theorem num2_cons (a b : UInt8) (l : List UInt8) (s : Bs) (h : s.data.toList = a :: b :: l) : num2 s = a.toNat * 256 + b.toNat := by
  unfold num2
  rw [ext_list, h]
  simp [numL]
theorem rd_ba (k : Nat) (s : Bs) (h : 2 ≤ s.size) : rd (k + 1) s.data.toList = if num2 s ≤ 400 ∧ 2 + num2 s ≤ s.size then (s.extract 2 (2 + num2 s) :: (rd k (s.extract (2 + num2 s) s.size).data.toList).1, 2 + num2 s + (rd k (s.extract (2 + num2 s) s.size).data.toList).2) else ([], 0) := by
  have hl : s.data.toList.length = s.size := rfl
  obtain ⟨a, b, l, hs⟩ : ∃ a b l, s.data.toList = a :: b :: l := by
    match h' : s.data.toList with
    | [] => rw [h'] at hl; simp at hl; omega
    | [a] => rw [h'] at hl; simp at hl; omega
    | a :: b :: l => exact ⟨a, b, l, rfl⟩
  have hn := num2_cons a b l s hs
  rw [hs] at hl
  have hl2 : l.length + 2 = s.size := by simpa using hl
  have e1 : s.extract 2 (2 + num2 s) = mk (l.take (num2 s)) := by
    apply ba_ext; rw [ext_list, hs, mk_list]; simp
  have e2 : (s.extract (2 + num2 s) s.size).data.toList = l.drop (num2 s) := by
    rw [ext_list, hs, Nat.add_comm 2]; simp only [List.drop_succ_cons]
    rw [List.take_of_length_le]; rw [List.length_drop]; omega
  rw [hs, rd_cons, ← hn, e1, e2]
  by_cases hc : num2 s ≤ 400 ∧ num2 s ≤ l.length
  · rw [if_pos hc, if_pos ⟨hc.1, by omega⟩]
  · rw [if_neg hc, if_neg (fun h => hc ⟨h.1, by omega⟩)]
theorem app_size (a b : Bs) : (a ++ b).size = a.size + b.size := ByteArray.size_append
end Fr
end Go.Proofs.Ytlpefkbgdbiinaa
