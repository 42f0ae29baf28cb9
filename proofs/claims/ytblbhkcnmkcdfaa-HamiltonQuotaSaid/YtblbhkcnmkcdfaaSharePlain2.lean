/- What is shared out: the laws, plain. -/
import Derived.Test.YtblbhkcnmkcdfaaJeffF
set_option linter.unusedSimpArgs false
set_option linter.unusedVariables false
namespace Go.Proofs.Ytblbhkcnmkcdfaa
namespace Sh
open Stb
theorem bef_tot {t : Int} {ws : List Int} {S x y : Int} (h : x ≠ y) : bef t ws S x y ∨ bef t ws S y x := by unfold bef; omega
theorem insert_ex {t : Int} {ws : List Int} {S : Int} (k : Nat) : ∀ (j : Nat) (f : Arr), j ≤ k → (∀ a b, f a = f b → a = b) → Insd (bef t ws S) f 0 k j → ∃ f', Pm 0 (k + 1) f f' ∧ Srt (bef t ws S) f' 0 (k + 1)
  | 0, f, hj, hi, h => ⟨f, Pm.refl _, h.done (bef_ord t ws S) (Nat.le_refl _) hj (.inl rfl)⟩
  | j + 1, f, hj, hi, h => by
    by_cases c : bef t ws S (f (j + 1)) (f j)
    · have h2 := h.step (by omega) hj c
      have hp : Pm 0 (k + 1) f (swp f (j + 1) (j + 1 - 1)) := Pm.step (j + 1) (j + 1 - 1) (Pm.refl f) (Nat.zero_le _) (by omega) (Nat.zero_le _) (by omega)
      obtain ⟨f', g1, g2⟩ := insert_ex k j (swp f (j + 1) (j + 1 - 1)) (by omega) (Pm_inj hp hi) h2
      exact ⟨f', hp.trans g1, g2⟩
    · have hr : bef t ws S (f j) (f (j + 1)) := by
        rcases bef_tot (t := t) (ws := ws) (S := S) (show f j ≠ f (j + 1) from fun e => by have := hi _ _ e; omega) with g | g
        · exact g
        · exact absurd g c
      exact ⟨f, Pm.refl _, h.done (bef_ord t ws S) (Nat.zero_le _) hj (.inr hr)⟩
theorem sorted_ex (t : Int) (ws : List Int) (S : Int) : ∀ n, ∃ d, Pm 0 n (fun k => (k : Int)) d ∧ Srt (bef t ws S) d 0 n
  | 0 => ⟨_, Pm.refl _, Srt.one (by omega)⟩
  | n + 1 => by
    obtain ⟨d, h1, h2⟩ := sorted_ex t ws S n
    obtain ⟨f, g1, g2⟩ := insert_ex n n d (Nat.le_refl _) (Pm_inj h1 id_inj) (Insd.start h2)
    exact ⟨f, (h1.mono (Nat.le_refl _) (Nat.le_succ n)).trans g1, g2⟩
theorem sum_lt (n L : Nat) (h : L ≤ n) : sumN n (fun p => if (p : Int) < (L : Int) then 1 else 0) = L := by
  have key : ∀ m, m ≤ n → sumN m (fun p => if (p : Int) < (L : Int) then (1 : Int) else 0) = if m ≤ L then (m : Int) else L := by
    intro m
    induction m with
    | zero => intro _; simp [sumN]
    | succ m ih =>
      intro hm
      simp only [sumN]
      rw [ih (by omega)]
      split <;> split <;> split <;> omega
  rw [key n (Nat.le_refl n)]
  split <;> omega
/-- so many have a rank below so much -/
theorem rank_count (t : Int) (ws : List Int) (S : Int) (n L : Nat) (h : L ≤ n) : sumN n (fun i => if rank t ws S n i < (L : Int) then 1 else 0) = L := by
  obtain ⟨d, hp, hs⟩ := sorted_ex t ws S n
  have h1 := hp.sum n (Nat.le_refl n) (fun x => if rank t ws S n x.toNat < (L : Int) then 1 else 0)
  simp only [Int.toNat_natCast] at h1
  exact h1.symm.trans ((sumN_congr (fun p hp2 => by rw [rank_at hp hs p hp2])).trans (sum_lt n L h))
/-- who goes before has the lower rank -/
theorem rank_lt {t : Int} {ws : List Int} {S : Int} {n i k : Nat} (hi : i < n) (hk : k < n) (h : bef t ws S i k) : rank t ws S n i < rank t ws S n k := by
  obtain ⟨d, hp, hs⟩ := sorted_ex t ws S n
  obtain ⟨p, h1, h2⟩ := stands hp i hi
  obtain ⟨q, h3, h4⟩ := stands hp k hk
  have r1 := rank_at hp hs p h1
  have r2 := rank_at hp hs q h3
  rw [h2, Int.toNat_natCast] at r1
  rw [h4, Int.toNat_natCast] at r2
  rw [r1, r2]
  rcases Nat.lt_trichotomy p q with c | c | c
  · omega
  · subst c
    have : (i : Int) = k := h2.symm.trans h4
    rw [this] at h
    exact absurd h (bef_ord t ws S).ir
  · have := hs q p (Nat.zero_le _) c h1
    rw [h4, h2] at this
    exact absurd ((bef_ord t ws S).tr h this) (bef_ord t ws S).ir
section
variable {t : Int} {ws : List Int} (he : allE t ws = 0)
include he
theorem hamR_at (i : Nat) (hi : i < ws.length) : (hamR t ws).getD i 0 = hamP t ws (sumW ws ws.length) ws.length (leftH t ws (sumW ws ws.length) ws.length) i := by
  unfold hamR hamL; rw [if_pos he]; simp [hi]
theorem hamR_len : (hamR t ws).length = ws.length := by unfold hamR hamL; rw [if_pos he]; simp
theorem ham_sum : sumN ws.length (hamP t ws (sumW ws ws.length) ws.length (leftH t ws (sumW ws ws.length) ws.length)) = t := by
  have hb := left_bd he ws.length (Nat.le_refl _)
  have hl := left_lt he (len_pos he)
  obtain ⟨L, hL⟩ : ∃ L : Nat, leftH t ws (sumW ws ws.length) ws.length = L := ⟨_, (Int.toNat_of_nonneg hb.1).symm⟩
  have h1 := rank_count t ws (sumW ws ws.length) ws.length L (by omega)
  have h2 : sumN ws.length (hamP t ws (sumW ws ws.length) ws.length (L : Int)) = sumN ws.length (quo t ws (sumW ws ws.length)) + L := by
    have := sumN_add (g := quo t ws (sumW ws ws.length)) (h := fun i => if rank t ws (sumW ws ws.length) ws.length i < (L : Int) then 1 else 0) ws.length
    rw [h1] at this
    exact this
  rw [hL, h2]
  unfold leftH at hL
  omega
/-- who has one more has a rest -/
theorem inc_rest (i : Nat) (hi : i < ws.length) (h : rank t ws (sumW ws ws.length) ws.length i < leftH t ws (sumW ws ws.length) ws.length) : 0 < rem t ws (sumW ws ws.length) i := by
  obtain ⟨_, _, _, _, h5, _⟩ := allE_ok he
  rcases Int.lt_or_le 0 (rem t ws (sumW ws ws.length) i) with c | c
  · exact c
  · exfalso
    have hz : rem t ws (sumW ws ws.length) i = 0 := by have := (rem_bd he i).1; omega
    -- all that have a rest go before
    have h1 : sumN ws.length (fun k => if 0 < rem t ws (sumW ws ws.length) k then (1 : Int) else 0) ≤ rank t ws (sumW ws ws.length) ws.length i := sumN_le _ (fun k hk => by
      by_cases c2 : 0 < rem t ws (sumW ws ws.length) k
      · rw [if_pos c2, if_pos (by unfold bef; simp only [Int.toNat_natCast]; omega)]; omega
      · rw [if_neg c2]; split <;> omega)
    have h2 : sumN ws.length (rem t ws (sumW ws ws.length)) ≤ sumN ws.length (fun k => sumW ws ws.length * (if 0 < rem t ws (sumW ws ws.length) k then (1 : Int) else 0)) := sumN_le _ (fun k hk => by
      have := rem_bd he k
      by_cases c2 : 0 < rem t ws (sumW ws ws.length) k
      · rw [if_pos c2]; omega
      · rw [if_neg c2]; omega)
    rw [sumN_mul, ← left_sum, Int.mul_comm (sumW ws ws.length)] at h2
    have h3 := Int.le_of_mul_le_mul_right h2 h5
    omega
theorem ham_quota (i : Nat) (hi : i < ws.length) : t * wv ws i - sumW ws ws.length < (hamR t ws).getD i 0 * sumW ws ws.length ∧ (hamR t ws).getD i 0 * sumW ws ws.length < t * wv ws i + sumW ws ws.length ∧ (wv ws i = 0 → (hamR t ws).getD i 0 = 0) := by
  obtain ⟨_, _, _, _, h5, _⟩ := allE_ok he
  rw [hamR_at he i hi]
  have hr := rem_bd he i
  have e : t * wv ws i = sumW ws ws.length * quo t ws (sumW ws ws.length) i + rem t ws (sumW ws ws.length) i := (Int.mul_ediv_add_emod _ _).symm
  unfold hamP
  by_cases c : rank t ws (sumW ws ws.length) ws.length i < leftH t ws (sumW ws ws.length) ws.length
  · have hp := inc_rest he i hi c
    rw [if_pos c, Int.add_mul, Int.mul_comm (quo _ _ _ _)]
    refine ⟨by omega, by omega, fun h0 => ?_⟩
    exfalso
    have : rem t ws (sumW ws ws.length) i = 0 := by unfold rem; rw [h0]; simp
    omega
  · rw [if_neg c, Int.add_zero, Int.mul_comm (quo _ _ _ _)]
    refine ⟨by omega, by omega, fun h0 => ?_⟩
    unfold quo; rw [h0]; simp
theorem ham_bd (i : Nat) (hi : i < ws.length) : 0 ≤ (hamR t ws).getD i 0 ∧ (hamR t ws).getD i 0 ≤ 100001 := by
  obtain ⟨_, _, h3, _⟩ := allE_ok he
  rw [hamR_at he i hi]
  have := quo_bd he i
  unfold hamP
  split <;> omega
theorem ham_order (i k : Nat) (hi : i < ws.length) (hk : k < ws.length) :
    (wv ws i = wv ws k → (hamR t ws).getD i 0 = (hamR t ws).getD k 0 ∨ (i < k ∧ (hamR t ws).getD i 0 = (hamR t ws).getD k 0 + 1) ∨ (k < i ∧ (hamR t ws).getD k 0 = (hamR t ws).getD i 0 + 1)) ∧ (wv ws k < wv ws i → (hamR t ws).getD k 0 ≤ (hamR t ws).getD i 0) := by
  obtain ⟨_, h2, _, _, h5, _⟩ := allE_ok he
  rw [hamR_at he i hi, hamR_at he k hk]
  have hb := left_bd he ws.length (Nat.le_refl _)
  unfold hamP
  constructor
  · intro e
    have eq : quo t ws (sumW ws ws.length) i = quo t ws (sumW ws ws.length) k := by unfold quo; rw [e]
    have er : rem t ws (sumW ws ws.length) i = rem t ws (sumW ws ws.length) k := by unfold rem; rw [e]
    rw [eq]
    rcases Nat.lt_trichotomy i k with c | c | c
    · have hr := rank_lt (t := t) (ws := ws) (S := sumW ws ws.length) hi hk (by unfold bef; simp only [Int.toNat_natCast]; right; exact ⟨er, by omega⟩)
      split <;> split <;> omega
    · subst c; left; rfl
    · have hr := rank_lt (t := t) (ws := ws) (S := sumW ws ws.length) hk hi (by unfold bef; simp only [Int.toNat_natCast]; right; exact ⟨er.symm, by omega⟩)
      split <;> split <;> omega
  · intro hw
    have ei : t * wv ws i = sumW ws ws.length * quo t ws (sumW ws ws.length) i + rem t ws (sumW ws ws.length) i := (Int.mul_ediv_add_emod _ _).symm
    have ek : t * wv ws k = sumW ws ws.length * quo t ws (sumW ws ws.length) k + rem t ws (sumW ws ws.length) k := (Int.mul_ediv_add_emod _ _).symm
    have hle : t * wv ws k ≤ t * wv ws i := Int.mul_le_mul_of_nonneg_left (by omega) h2
    have hq : quo t ws (sumW ws ws.length) k ≤ quo t ws (sumW ws ws.length) i := Int.ediv_le_ediv h5 hle
    by_cases c : quo t ws (sumW ws ws.length) k = quo t ws (sumW ws ws.length) i
    · rw [c] at ek ⊢
      by_cases ct : t = 0
      · have hl0 : leftH t ws (sumW ws ws.length) ws.length = 0 := by omega
        have hr0 : ∀ j, ¬ rank t ws (sumW ws ws.length) ws.length j < leftH t ws (sumW ws ws.length) ws.length := fun j => by
          have := sumN_nonneg (g := fun k => if bef t ws (sumW ws ws.length) k j then (1 : Int) else 0) ws.length (fun k _ => by show 0 ≤ if _ then (1 : Int) else 0; split <;> omega)
          unfold rank; omega
        rw [if_neg (hr0 i), if_neg (hr0 k)]; omega
      · have hlt : t * wv ws k < t * wv ws i := Int.mul_lt_mul_of_pos_left hw (by omega)
        have hr := rank_lt (t := t) (ws := ws) (S := sumW ws ws.length) hi hk (by unfold bef; simp only [Int.toNat_natCast]; left; omega)
        split <;> split <;> omega
    · split <;> split <;> omega
end
/-! Jefferson -/
theorem jf_sum (ws : List Int) (n : Nat) (hn : 0 < n) : ∀ s, sumN n (jf ws n s) = s
  | 0 => sumN_zero n
  | s + 1 => by
    have hl := best_le ws (jf ws n s) (n - 1)
    have := sumN_upd n (jf ws n s) (best ws (jf ws n s) (n - 1)) (jf ws n s (best ws (jf ws n s) (n - 1)) + 1)
    rw [if_pos (by omega), jf_sum ws n hn s] at this
    have e : sumN n (jf ws n (s + 1)) = sumN n (fun k => if k = best ws (jf ws n s) (n - 1) then jf ws n s (best ws (jf ws n s) (n - 1)) + 1 else jf ws n s k) := sumN_congr (fun k _ => by
      simp only [jf]
      by_cases c : k = best ws (jf ws n s) (n - 1)
      · rw [if_pos c, if_pos c, ← c]
      · rw [if_neg c, if_neg c])
    rw [e, this]; omega
theorem jf_best {ws : List Int} {n : Nat} (hw : ∀ i, 0 ≤ wv ws i) : ∀ (s i k : Nat), i < n → k < n → jf ws n s i = 0 ∨ wv ws k * jf ws n s i ≤ wv ws i * (jf ws n s k + 1)
  | 0, i, k, _, _ => .inl rfl
  | s + 1, i, k, hi, hk => by
    have hj := fun i => (jf_bd ws n s i).1
    have ih := jf_best hw s i k hi hk
    have hl := best_le ws (jf ws n s) (n - 1)
    have hw1 := hw i; have hw2 := hw k
    simp only [jf]
    by_cases c1 : i = best ws (jf ws n s) (n - 1)
    · rw [if_pos c1]
      right
      by_cases c2 : k = best ws (jf ws n s) (n - 1)
      · rw [if_pos c2, c2, c1]
        exact Int.mul_le_mul_of_nonneg_left (by omega) (by rw [← c1]; exact hw1)
      · rw [if_neg c2]
        have hb := best_is hw hj (n - 1) k (by omega) c2
        rw [← c1] at hb
        unfold lessP at hb
        simp only [Int.toNat_natCast] at hb
        omega
    · rw [if_neg c1]
      by_cases c2 : k = best ws (jf ws n s) (n - 1)
      · rw [if_pos c2]
        rcases ih with ih | ih
        · exact .inl ih
        · right
          have : wv ws i * (jf ws n s k + 1) ≤ wv ws i * (jf ws n s k + 1 + 1) := Int.mul_le_mul_of_nonneg_left (by omega) hw1
          omega
      · rw [if_neg c2]; exact ih
theorem jf_quota {ws : List Int} {n : Nat} (hw : ∀ i, 0 ≤ wv ws i) (hS : 0 < sumW ws n) (s i : Nat) (hi : i < n) : s * wv ws i < (jf ws n s i + 1) * sumW ws n := by
  have hn : 0 < n := by omega
  have hji := (jf_bd ws n s i).1
  by_cases c : wv ws i = 0
  · rw [c, Int.mul_zero]
    exact Int.mul_pos (by omega) hS
  · have hpos : 0 < wv ws i := by have := hw i; omega
    have key : ∀ k, k < n → wv ws i * jf ws n s k ≤ (jf ws n s i + 1) * wv ws k := fun k hk => by
      rcases jf_best hw s k i hk hi with h | h
      · rw [h, Int.mul_zero]; exact Int.mul_nonneg (by omega) (hw k)
      · rw [Int.mul_comm (jf ws n s i + 1)]; exact h
    -- strict at i
    have hsum : ∀ m, m ≤ n → sumN m (fun k => wv ws i * jf ws n s k) + (if i < m then wv ws i else 0) ≤ sumN m (fun k => (jf ws n s i + 1) * wv ws k) := by
      intro m
      induction m with
      | zero => intro _; simp [sumN]
      | succ m ih =>
        intro hm
        have h1 := ih (by omega)
        have h2 := key m (by omega)
        simp only [sumN]
        by_cases c2 : m = i
        · subst c2
          rw [if_neg (by omega)] at h1
          rw [if_pos (by omega)]
          have : (jf ws n s m + 1) * wv ws m = wv ws m * jf ws n s m + wv ws m := by rw [Int.add_mul, Int.one_mul, Int.mul_comm]
          omega
        · by_cases c3 : i < m
          · rw [if_pos c3] at h1; rw [if_pos (by omega)]; omega
          · rw [if_neg c3] at h1; rw [if_neg (by omega)]; omega
    have := hsum n (Nat.le_refl n)
    rw [if_pos hi, sumN_mul, sumN_mul, jf_sum ws n hn s] at this
    unfold sumW
    rw [Int.mul_comm (s : Int)]
    omega
end Sh
end Go.Proofs.Ytblbhkcnmkcdfaa
