/- Terms: plain facts on whole numbers, no program in sight. -/
import Derived.Test.YtcgncmlldjblmaaDatePlain
set_option linter.unusedSimpArgs false
set_option linter.unusedVariables false
namespace Go.Proofs.Ytcgncmlldjblmaa
namespace Dt
/-- the days ahead of a month that is counted through; its length -/
def S (t : Int) : Int := dby (t / 12) + cum (t / 12) (t % 12 + 1)
def L (t : Int) : Int := len (t / 12) (t % 12 + 1)
theorem L_bd (t : Int) : 28 ≤ L t ∧ L t ≤ 31 := len_bd _ _ (by omega) (by omega)
theorem S_succ (t : Int) : S (t + 1) = S t + L t := by
  unfold S L
  by_cases h : t % 12 = 11
  · have h1 : (t + 1) / 12 = t / 12 + 1 := by omega
    have h2 : (t + 1) % 12 = 0 := by omega
    rw [h1, h2, h, dby_succ]
    have h3 := cum_succ (t / 12) 12
    rw [show (12 : Int) + 1 = 13 by rfl, cum_13] at h3
    rw [show (11 : Int) + 1 = 12 by rfl, show (0 : Int) + 1 = 1 by rfl, cum_1]
    omega
  · have h1 : (t + 1) / 12 = t / 12 := by omega
    have h2 : (t + 1) % 12 = t % 12 + 1 := by omega
    rw [h1, h2, cum_succ]; omega
theorem S_lt_nat (t : Int) : ∀ k : Nat, S t + L t ≤ S (t + (k + 1 : Nat))
  | 0 => by have := S_succ t; simp; omega
  | k + 1 => by
    have h := S_lt_nat t k
    have h2 := S_succ (t + (k + 1 : Nat))
    have h3 := L_bd (t + (k + 1 : Nat))
    rw [show t + ((k + 1 + 1 : Nat) : Int) = t + ((k + 1 : Nat) : Int) + 1 by omega]
    omega
theorem S_lt {t u : Int} (h : t < u) : S t + L t ≤ S u := by
  have := S_lt_nat t (u - t - 1).toNat
  rw [show t + (((u - t - 1).toNat + 1 : Nat) : Int) = u by omega] at this
  exact this
/-- the month of a day, counted through -/
def mo (n : Int) : Int := 12 * (dateOf n).1 + ((dateOf n).2.1 - 1)
def dm (n : Int) : Int := (dateOf n).2.2
def dayAt (t d : Int) : Int := if t / 12 > 9999 then 3652060 else S t + min d (L t)
def monthsF (n many : Int) : Int := dayAt (mo n + many) (dm n)
theorem mo_spec {n : Int} (h1 : 1 ≤ n) (h2 : n ≤ 3652059) : 12 ≤ mo n ∧ mo n ≤ 119999 ∧ 1 ≤ dm n ∧ dm n ≤ L (mo n) ∧ S (mo n) + dm n = n := by
  obtain ⟨v, e⟩ := dateOf_spec n h1 h2
  have a1 := v.y1; have a2 := v.y2; have a3 := v.m1; have a4 := v.m2; have a5 := v.d1; have a6 := v.d2
  unfold mo dm
  generalize (dateOf n).1 = y at *
  generalize (dateOf n).2.1 = m at *
  generalize (dateOf n).2.2 = d at *
  have e1 : (12 * y + (m - 1)) / 12 = y := by omega
  have e2 : (12 * y + (m - 1)) % 12 + 1 = m := by omega
  unfold S L
  rw [e1, e2]
  unfold raw at e
  exact ⟨by omega, by omega, a5, a6, e⟩
theorem dayAt_bd {t d : Int} (h1 : 12 ≤ t) (h2 : t ≤ 119999) (hd : 1 ≤ d) : 1 ≤ dayAt t d ∧ dayAt t d ≤ 3652059 := by
  have hl := L_bd t
  unfold dayAt
  rw [if_neg (by omega)]
  have v : Valid (t / 12) (t % 12 + 1) (min d (L t)) := ⟨by omega, by omega, by omega, by omega, by omega, by show _ ≤ L t; omega⟩
  exact raw_bd v
theorem dayAt_over {t d : Int} (h : 119999 < t) : dayAt t d = 3652060 := by unfold dayAt; rw [if_pos (by omega)]
theorem dayAt_date {t d : Int} (h1 : 12 ≤ t) (h2 : t ≤ 119999) (hd : 1 ≤ d) : dateOf (dayAt t d) = (t / 12, t % 12 + 1, min d (L t)) := by
  have hl := L_bd t
  unfold dayAt
  rw [if_neg (by omega)]
  have v : Valid (t / 12) (t % 12 + 1) (min d (L t)) := ⟨by omega, by omega, by omega, by omega, by omega, by show _ ≤ L t; omega⟩
  exact dateOf_raw v
theorem dayAt_lt {t u d e : Int} (h0 : 12 ≤ t) (h : t < u) (hd : 1 ≤ d) (he : 1 ≤ e) (hu : u ≤ 119999) : dayAt t d < dayAt u e := by
  have h1 := S_lt h
  have h2 := L_bd u
  unfold dayAt
  rw [if_neg (by omega), if_neg (by omega)]
  omega
theorem dayAt_mono {t u d e : Int} (h0 : 12 ≤ t) (h : t < u ∨ (t = u ∧ d ≤ e)) (hd : 1 ≤ d) (he : 1 ≤ e) : dayAt t d ≤ dayAt u e := by
  by_cases hu : u ≤ 119999
  · rcases h with h | ⟨rfl, h⟩
    · exact Int.le_of_lt (dayAt_lt h0 h hd he hu)
    · unfold dayAt
      rw [if_neg (by omega), if_neg (by omega)]; omega
  · rw [dayAt_over (by omega : 119999 < u)]
    by_cases ht : t ≤ 119999
    · have := (dayAt_bd h0 ht hd).2; omega
    · rw [dayAt_over (by omega)]; omega
theorem mo_order {a b : Int} (h : a ≤ b) (h1 : 1 ≤ a) (h2 : b ≤ 3652059) : mo a < mo b ∨ (mo a = mo b ∧ dm a ≤ dm b) := by
  obtain ⟨a1, a2, a3, a4, a5⟩ := mo_spec h1 (by omega)
  obtain ⟨b1, b2, b3, b4, b5⟩ := mo_spec (by omega : 1 ≤ b) h2
  rcases Int.lt_trichotomy (mo a) (mo b) with g | g | g
  · exact .inl g
  · rw [g] at a5 a4; exact .inr ⟨g, by omega⟩
  · have := S_lt g; omega
theorem months_mono {a b p q : Int} (h : a ≤ b) (h1 : 1 ≤ a) (h2 : b ≤ 3652059) (hp : 0 ≤ p) (hq : p ≤ q) : monthsF a p ≤ monthsF b q := by
  obtain ⟨a1, a2, a3, a4, a5⟩ := mo_spec h1 (by omega)
  obtain ⟨b1, b2, b3, b4, b5⟩ := mo_spec (by omega : 1 ≤ b) h2
  have := mo_order h h1 h2
  exact dayAt_mono (by omega) (by omega) a3 b3
theorem months_lt {a b p q : Int} (h : a ≤ b) (h1 : 1 ≤ a) (h2 : b ≤ 3652059) (hp : 0 ≤ p) (hq : p < q) (hv : monthsF b q ≤ 3652059) : monthsF a p < monthsF b q := by
  obtain ⟨a1, a2, a3, a4, a5⟩ := mo_spec h1 (by omega)
  obtain ⟨b1, b2, b3, b4, b5⟩ := mo_spec (by omega : 1 ≤ b) h2
  have := mo_order h h1 h2
  by_cases hu : mo b + q ≤ 119999
  · exact dayAt_lt (by omega) (by omega) a3 b3 hu
  · unfold monthsF at hv; rw [dayAt_over (by omega)] at hv; omega
theorem months_zero {n : Int} (h1 : 1 ≤ n) (h2 : n ≤ 3652059) : monthsF n 0 = n := by
  obtain ⟨a1, a2, a3, a4, a5⟩ := mo_spec h1 h2
  unfold monthsF dayAt
  rw [Int.add_zero, if_neg (by omega), Int.min_eq_left a4, a5]
theorem months_pos {n p : Int} (h1 : 1 ≤ n) (h2 : n ≤ 3652059) (hp : 0 ≤ p) : 1 ≤ monthsF n p := by
  have := months_mono (Int.le_refl n) h1 h2 (Int.le_refl 0) hp
  rw [months_zero h1 h2] at this; omega
theorem months_cases {n p : Int} (h1 : 1 ≤ n) (h2 : n ≤ 3652059) (hp : 0 ≤ p) : (mo n + p ≤ 119999 ∧ monthsF n p ≤ 3652059) ∨ (119999 < mo n + p ∧ monthsF n p = 3652060) := by
  obtain ⟨a1, a2, a3, a4, a5⟩ := mo_spec h1 h2
  by_cases h : mo n + p ≤ 119999
  · exact .inl ⟨h, (dayAt_bd (by omega) h a3).2⟩
  · exact .inr ⟨by omega, dayAt_over (by omega)⟩
/-- a term's beginning -/
def rawT (u N s k : Int) : Int := if u = 1 then s + N * k else if u = 2 then s + 7 * (N * k) else if u = 4 then monthsF s (12 * (N * k)) else monthsF s (N * k)
theorem mul_bd {N k : Int} (h1 : 1 ≤ N) (h2 : N ≤ 120) (h3 : 0 ≤ k) (h4 : k ≤ 1001) : 0 ≤ N * k ∧ N * k ≤ 120120 ∧ k ≤ N * k := by
  have a := Int.mul_nonneg (by omega : 0 ≤ N) h3
  have b := Int.mul_le_mul h2 h4 h3 (by omega)
  have c := Int.mul_le_mul_of_nonneg_right h1 h3
  omega
theorem mul_mono {N k j : Int} (h1 : 1 ≤ N) (h : k ≤ j) : N * k ≤ N * j := Int.mul_le_mul_of_nonneg_left h (by omega)
theorem mul_lt {N k j : Int} (h1 : 1 ≤ N) (h : k < j) : N * k < N * j := by
  have := mul_mono h1 (show k + 1 ≤ j by omega)
  rw [Int.mul_add, Int.mul_one] at this; omega
theorem rawT_mono {u N a b k j : Int} (h : a ≤ b) (h1 : 1 ≤ a) (h2 : b ≤ 3652059) (hN : 1 ≤ N) (hk : 0 ≤ k) (hj : k ≤ j) : rawT u N a k ≤ rawT u N b j := by
  have m0 := Int.mul_nonneg (by omega : 0 ≤ N) hk
  have m1 := mul_mono hN hj
  unfold rawT
  by_cases e1 : u = 1
  · rw [if_pos e1, if_pos e1]; omega
  · rw [if_neg e1, if_neg e1]
    by_cases e2 : u = 2
    · rw [if_pos e2, if_pos e2]; omega
    · rw [if_neg e2, if_neg e2]
      by_cases e3 : u = 4
      · rw [if_pos e3, if_pos e3]; exact months_mono h h1 h2 (by omega) (by omega)
      · rw [if_neg e3, if_neg e3]; exact months_mono h h1 h2 (by omega) (by omega)
theorem rawT_lt {u N a b k j : Int} (h : a ≤ b) (h1 : 1 ≤ a) (h2 : b ≤ 3652059) (hN : 1 ≤ N) (hk : 0 ≤ k) (hj : k < j) (hv : rawT u N b j ≤ 3652059) : rawT u N a k < rawT u N b j := by
  have m0 := Int.mul_nonneg (by omega : 0 ≤ N) hk
  have m1 := mul_lt hN hj
  unfold rawT at *
  by_cases e1 : u = 1
  · rw [if_pos e1, if_pos e1]; omega
  · rw [if_neg e1] at hv ⊢; rw [if_neg e1]
    by_cases e2 : u = 2
    · rw [if_pos e2, if_pos e2]; omega
    · rw [if_neg e2] at hv ⊢; rw [if_neg e2]
      by_cases e3 : u = 4
      · rw [if_pos e3] at hv ⊢; rw [if_pos e3]; exact months_lt h h1 h2 (by omega) (by omega) hv
      · rw [if_neg e3] at hv ⊢; rw [if_neg e3]; exact months_lt h h1 h2 (by omega) (by omega) hv
theorem rawT_zero {u N s : Int} (h1 : 1 ≤ s) (h2 : s ≤ 3652059) : rawT u N s 0 = s := by
  unfold rawT
  rw [Int.mul_zero, Int.mul_zero, Int.add_zero, Int.mul_zero, months_zero h1 h2]
  simp
theorem rawT_pos {u N s k : Int} (h1 : 1 ≤ s) (h2 : s ≤ 3652059) (hN : 1 ≤ N) (hk : 0 ≤ k) : s ≤ rawT u N s k := by
  have := rawT_mono (u := u) (Int.le_refl s) h1 h2 hN (Int.le_refl 0) hk
  rw [rawT_zero h1 h2] at this; exact this
theorem rawT_bd {u N s k : Int} (h1 : 1 ≤ s) (h2 : s ≤ 3652059) (hN : 1 ≤ N) (hN2 : N ≤ 120) (hk : 0 ≤ k) (hk2 : k ≤ 1001) : 1 ≤ rawT u N s k ∧ rawT u N s k ≤ 10000000 := by
  have m0 := mul_bd hN hN2 hk hk2
  have := rawT_pos (u := u) h1 h2 hN hk
  refine ⟨by omega, ?_⟩
  unfold rawT
  by_cases e1 : u = 1
  · rw [if_pos e1]; omega
  · rw [if_neg e1]
    by_cases e2 : u = 2
    · rw [if_pos e2]; omega
    · rw [if_neg e2]
      by_cases e3 : u = 4
      · rw [if_pos e3]; rcases months_cases h1 h2 (by omega : 0 ≤ 12 * (N * k)) with h | h <;> omega
      · rw [if_neg e3]; rcases months_cases h1 h2 m0.1 with h | h <;> omega
/-- checks and answers -/
def tchk (u N : Int) : Int := if u < 1 ∨ 4 < u then 7 else if N < 1 ∨ 120 < N then 3 else 0
theorem tchk_ok {u N : Int} (h : tchk u N = 0) : 1 ≤ u ∧ u ≤ 4 ∧ 1 ≤ N ∧ N ≤ 120 := by
  unfold tchk at h
  by_cases h1 : u < 1 ∨ 4 < u
  · rw [if_pos h1] at h; simp at h
  · rw [if_neg h1] at h
    by_cases h2 : N < 1 ∨ 120 < N
    · rw [if_pos h2] at h; simp at h
    · omega
def nthF (u N s k : Int) : Int × Int :=
  if tchk u N ≠ 0 then (0, tchk u N) else if s < 1 ∨ 3652059 < s ∨ k < 0 ∨ 1000 < k then (0, 3) else if 3652059 < rawT u N s k then (0, 8) else (rawT u N s k, 0)
theorem nth_cases (u N s k : Int) : (∃ c : Int, nthF u N s k = (0, c) ∧ c ≠ 0) ∨ ((1 ≤ u ∧ u ≤ 4 ∧ 1 ≤ N ∧ N ≤ 120) ∧ (1 ≤ s ∧ s ≤ 3652059 ∧ 0 ≤ k ∧ k ≤ 1000) ∧ rawT u N s k ≤ 3652059 ∧ nthF u N s k = (rawT u N s k, 0)) := by
  unfold nthF
  by_cases h1 : tchk u N = 0
  · rw [if_neg (fun x => x h1)]
    by_cases h2 : s < 1 ∨ 3652059 < s ∨ k < 0 ∨ 1000 < k
    · rw [if_pos h2]; exact .inl ⟨3, rfl, by decide⟩
    · rw [if_neg h2]
      by_cases h3 : 3652059 < rawT u N s k
      · rw [if_pos h3]; exact .inl ⟨8, rfl, by decide⟩
      · rw [if_neg h3]; exact .inr ⟨tchk_ok h1, by omega, by omega, rfl⟩
  · rw [if_pos h1]; exact .inl ⟨_, rfl, h1⟩
/-- the first k that is so, of those below n; n: none -/
def firstF (p : Nat → Bool) : Nat → Nat
  | 0 => 0
  | n + 1 => if firstF p n < n then firstF p n else if p n = true ∧ firstF p n = n then n else n + 1
theorem first_spec (p : Nat → Bool) : ∀ n, firstF p n ≤ n ∧ (∀ t, t < firstF p n → p t = false) ∧ (firstF p n < n → p (firstF p n) = true)
  | 0 => ⟨Nat.le_refl _, fun t ht => absurd ht (Nat.not_lt_zero _), fun h => absurd h (Nat.not_lt_zero _)⟩
  | n + 1 => by
    obtain ⟨h1, h2, h3⟩ := first_spec p n
    by_cases a : firstF p n < n
    · have e : firstF p (n + 1) = firstF p n := by show (if _ then _ else _) = _; rw [if_pos a]
      rw [e]; exact ⟨by omega, h2, fun _ => h3 a⟩
    · have a' : firstF p n = n := by omega
      by_cases b : p n = true
      · have e : firstF p (n + 1) = n := by show (if _ then _ else _) = _; rw [if_neg a, if_pos ⟨b, a'⟩]
        rw [e]; exact ⟨by omega, by rw [a'] at h2; exact h2, fun _ => b⟩
      · have e : firstF p (n + 1) = n + 1 := by show (if _ then _ else _) = _; rw [if_neg a, if_neg (fun x => b x.1)]
        rw [e]
        refine ⟨Nat.le_refl _, fun t ht => ?_, fun h => absurd h (Nat.lt_irrefl _)⟩
        by_cases c : t = n
        · subst c; simpa using b
        · exact h2 t (by omega)
theorem first_eq (p : Nat → Bool) (n k : Nat) (h1 : k ≤ n) (h2 : ∀ t, t < k → p t = false) (h3 : k < n → p k = true) : firstF p n = k := by
  obtain ⟨g1, g2, g3⟩ := first_spec p n
  rcases Nat.lt_trichotomy (firstF p n) k with h | h | h
  · have := g3 (by omega); rw [h2 _ h] at this; simp at this
  · exact h
  · have := g2 k h; rw [h3 (by omega)] at this; simp at this
def over (u N s n : Int) (k : Nat) : Bool := decide (n < rawT u N s ((k : Int) + 1))
def findK (u N s n : Int) : Nat := firstF (over u N s n) 1001
def findF (u N s n : Int) : Int × Int :=
  if tchk u N ≠ 0 then (0, tchk u N) else if s < 1 ∨ 3652059 < s ∨ n < 1 ∨ 3652059 < n then (0, 3) else if n < s then (0, 4) else if findK u N s n = 1001 then (0, 2) else (findK u N s n, 0)
theorem find_cases (u N s n : Int) : (∃ c : Int, findF u N s n = (0, c) ∧ c ≠ 0) ∨ (∃ k : Nat, (1 ≤ u ∧ u ≤ 4 ∧ 1 ≤ N ∧ N ≤ 120) ∧ (1 ≤ s ∧ s ≤ n ∧ n ≤ 3652059) ∧ k ≤ 1000 ∧ findF u N s n = ((k : Int), 0) ∧ rawT u N s k ≤ n ∧ n < rawT u N s ((k : Int) + 1)) := by
  unfold findF
  by_cases h1 : tchk u N = 0
  · rw [if_neg (fun x => x h1)]
    by_cases h2 : s < 1 ∨ 3652059 < s ∨ n < 1 ∨ 3652059 < n
    · rw [if_pos h2]; exact .inl ⟨3, rfl, by decide⟩
    · rw [if_neg h2]
      by_cases h3 : n < s
      · rw [if_pos h3]; exact .inl ⟨4, rfl, by decide⟩
      · rw [if_neg h3]
        by_cases h4 : findK u N s n = 1001
        · rw [if_pos h4]; exact .inl ⟨2, rfl, by decide⟩
        · rw [if_neg h4]
          obtain ⟨g1, g2, g3⟩ := first_spec (over u N s n) 1001
          refine .inr ⟨findK u N s n, tchk_ok h1, by omega, by unfold findK at h4 ⊢; omega, rfl, ?_, ?_⟩
          · unfold findK
            cases hk : firstF (over u N s n) 1001 with
            | zero => rw [Int.natCast_zero, rawT_zero (by omega) (by omega)]; omega
            | succ k =>
              have := g2 k (by omega)
              unfold over at this
              have := of_decide_eq_false this
              rw [show ((k + 1 : Nat) : Int) = (k : Int) + 1 by omega]
              omega
          · have := g3 (by unfold findK at h4; omega)
            unfold over at this
            exact of_decide_eq_true this
  · rw [if_pos h1]; exact .inl ⟨_, rfl, h1⟩
theorem over_mono {u N s n : Int} (hN : 1 ≤ N) (h1 : 1 ≤ s) (h2 : s ≤ 3652059) : ∀ a b : Nat, a ≤ b → over u N s n a = true → over u N s n b = true := by
  intro a b hab h
  unfold over at *
  have := of_decide_eq_true h
  have m := rawT_mono (u := u) (Int.le_refl s) h1 h2 hN (by omega : (0 : Int) ≤ (a : Int) + 1) (by omega : (a : Int) + 1 ≤ (b : Int) + 1)
  exact decide_eq_true (by omega)
end Dt
end Go.Proofs.Ytcgncmlldjblmaa
