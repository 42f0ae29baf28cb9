/- What is shared out: the plain functions: even parts; quotas and ranks. -/
import Derived.Test.YtjicpflgkhdppaaStablePlain
set_option linter.unusedSimpArgs false
set_option linter.unusedVariables false
namespace Go.Proofs.Ytjicpflgkhdppaa
namespace Sh
open Stb
def wv (ws : List Int) (i : Nat) : Int := ws.getD i 0
def sumW (ws : List Int) (k : Nat) : Int := sumN k (wv ws)
def okW (w : Int) : Prop := 0 ≤ w ∧ w ≤ 100000
instance (w : Int) : Decidable (okW w) := by unfold okW; exact inferInstance
def allE (t : Int) (ws : List Int) : Int := if 32 < ws.length then 2 else if t < 0 ∨ 100000 < t then 3 else if ∀ w ∈ ws, okW w then (if sumW ws ws.length = 0 then 5 else 0) else 3
def allS (t : Int) (ws : List Int) : Int := if allE t ws = 0 then sumW ws ws.length else 0
theorem wv_at {ws : List Int} {i : Nat} (h : i < ws.length) : wv ws i = ws[i] := by unfold wv; simp [List.getD, h]
theorem wv_ok {ws : List Int} (h : ∀ w ∈ ws, okW w) (i : Nat) : 0 ≤ wv ws i ∧ wv ws i ≤ 100000 := by
  by_cases c : i < ws.length
  · rw [wv_at c]; exact h _ (List.getElem_mem c)
  · have : wv ws i = 0 := by unfold wv; simp [List.getD, List.getElem?_eq_none (show ws.length ≤ i by omega)]
    omega
theorem sumN_nonneg {g : Nat → Int} (n : Nat) (h : ∀ k, k < n → 0 ≤ g k) : 0 ≤ sumN n g := by
  induction n with
  | zero => exact Int.le_refl _
  | succ n ih => have := ih (fun k hk => h k (by omega)); have := h n (by omega); simp only [sumN]; omega
theorem sumN_le {g h : Nat → Int} (n : Nat) (hh : ∀ k, k < n → g k ≤ h k) : sumN n g ≤ sumN n h := by
  induction n with
  | zero => exact Int.le_refl _
  | succ n ih => have := ih (fun k hk => hh k (by omega)); have := hh n (by omega); simp only [sumN]; omega
theorem sumN_bd {g : Nat → Int} (n : Nat) (c : Int) (h : ∀ k, k < n → g k ≤ c) : sumN n g ≤ n * c := by
  induction n with
  | zero => simp [sumN]
  | succ n ih =>
    have := ih (fun k hk => h k (by omega)); have := h n (by omega); simp only [sumN]
    rw [show ((n + 1 : Nat) : Int) * c = (n : Int) * c + c by rw [Int.natCast_add, Int.add_mul]; simp]
    omega
theorem sumN_add {g h : Nat → Int} (n : Nat) : sumN n (fun k => g k + h k) = sumN n g + sumN n h := by
  induction n with
  | zero => rfl
  | succ n ih => simp only [sumN]; rw [ih]; omega
theorem sumN_mul {g : Nat → Int} (c : Int) (n : Nat) : sumN n (fun k => c * g k) = c * sumN n g := by
  induction n with
  | zero => simp [sumN]
  | succ n ih => simp only [sumN]; rw [ih, Int.mul_add]
theorem sumN_zero (n : Nat) : sumN n (fun _ => 0) = 0 := by
  induction n with
  | zero => rfl
  | succ n ih => simp only [sumN]; rw [ih]; rfl
theorem sumN_pos {g : Nat → Int} (n : Nat) (h : ∀ k, k < n → 0 ≤ g k) (k : Nat) (hk : k < n) : g k ≤ sumN n g := by
  induction n with
  | zero => omega
  | succ n ih =>
    simp only [sumN]
    have h2 := h n (by omega)
    by_cases c : k = n
    · subst c; have := sumN_nonneg k (fun j hj => h j (by omega)); omega
    · have := ih (fun j hj => h j (by omega)) (by omega); omega
theorem sumW_bd {ws : List Int} {k : Nat} (h : ∀ i, i < k → okW (wv ws i)) : 0 ≤ sumW ws k ∧ sumW ws k ≤ 100000 * k := by
  have h1 := sumN_nonneg (g := wv ws) k (fun j hj => (h j hj).1)
  have h2 := sumN_bd (g := wv ws) k 100000 (fun j hj => (h j hj).2)
  unfold sumW; omega
theorem allE_ok {t : Int} {ws : List Int} (h : allE t ws = 0) : ws.length ≤ 32 ∧ 0 ≤ t ∧ t ≤ 100000 ∧ (∀ w ∈ ws, okW w) ∧ 0 < sumW ws ws.length ∧ allS t ws = sumW ws ws.length := by
  have hs : allS t ws = sumW ws ws.length := by unfold allS; rw [if_pos h]
  unfold allE at h
  by_cases c1 : 32 < ws.length
  · rw [if_pos c1] at h; omega
  · rw [if_neg c1] at h
    by_cases c2 : t < 0 ∨ 100000 < t
    · rw [if_pos c2] at h; omega
    · rw [if_neg c2] at h
      by_cases c3 : ∀ w ∈ ws, okW w
      · rw [if_pos c3] at h
        by_cases c4 : sumW ws ws.length = 0
        · rw [if_pos c4] at h; omega
        · have := (sumW_bd (ws := ws) (k := ws.length) (fun i _ => wv_ok c3 i)).1
          exact ⟨by omega, by omega, by omega, c3, by omega, hs⟩
      · rw [if_neg c3] at h; omega
/-! even parts -/
def evenE (t m : Int) : Int := if t < 0 ∨ 1099511627776 < t ∨ m < 1 ∨ 32 < m then 3 else 0
def evenP (t m : Int) (i : Nat) : Int := t / m + if (i : Int) < t % m then 1 else 0
def evenL (t m : Int) (k : Nat) : List Int := (List.range k).map (evenP t m)
def evenR (t m : Int) : List Int := if evenE t m = 0 then evenL t m m.toNat else []
theorem evenL_succ (t m : Int) (k : Nat) : evenL t m (k + 1) = evenL t m k ++ [evenP t m k] := by
  unfold evenL; rw [List.range_succ, List.map_append]; rfl
theorem evenL_len (t m : Int) (k : Nat) : (evenL t m k).length = k := by simp [evenL]
/-- what is left behind k parts -/
def leftE (t m : Int) (k : Nat) : Int := (m - k) * (t / m) + if (k : Int) < t % m then t % m - k else 0
theorem leftE_zero (t m : Int) (hm : 0 < m) : leftE t m 0 = t := by
  unfold leftE
  have h1 := Int.emod_nonneg t (show m ≠ 0 by omega)
  have h2 := Int.mul_ediv_add_emod t m
  rw [show m - ((0 : Nat) : Int) = m by simp]
  split <;> omega
theorem leftE_succ (t m : Int) (k : Nat) : leftE t m (k + 1) = leftE t m k - evenP t m k := by
  unfold leftE evenP
  rw [show ((k + 1 : Nat) : Int) = (k : Int) + 1 by omega, show m - ((k : Int) + 1) = (m - k) - 1 by omega, Int.sub_mul, Int.one_mul]
  split <;> split <;> omega
theorem evenP_ceil (t m : Int) (k : Nat) (hm : (k : Int) < m) (ht : 0 ≤ t) : (leftE t m k + (m - k) - 1) / (m - k) = evenP t m k := by
  have h1 := Int.emod_nonneg t (show m ≠ 0 by omega)
  have h2 := Int.emod_lt_of_pos t (show 0 < m by omega)
  unfold leftE evenP
  generalize t / m = q
  by_cases c : (k : Int) < t % m
  · rw [if_pos c, if_pos c]
    rw [show (m - (k : Int)) * q + (t % m - k) + (m - k) - 1 = (t % m - k - 1) + (m - k) * (q + 1) by rw [Int.mul_add]; omega]
    rw [Int.add_mul_ediv_left _ _ (by omega), Int.ediv_eq_zero_of_lt (by omega) (by omega)]
    omega
  · rw [if_neg c, if_neg c]
    rw [show (m - (k : Int)) * q + 0 + (m - k) - 1 = (m - k - 1) + (m - k) * q by omega]
    rw [Int.add_mul_ediv_left _ _ (by omega), Int.ediv_eq_zero_of_lt (by omega) (by omega)]
    omega
theorem leftE_bd (t m : Int) (k : Nat) (hm : (k : Int) ≤ m) (h1 : 0 < m) (ht : 0 ≤ t) : 0 ≤ leftE t m k ∧ leftE t m k ≤ t := by
  have h2 := Int.emod_nonneg t (show m ≠ 0 by omega)
  have h3 := Int.mul_ediv_add_emod t m
  have hq : 0 ≤ t / m := Int.ediv_nonneg ht (by omega)
  unfold leftE
  have h4 : 0 ≤ (m - k) * (t / m) := Int.mul_nonneg (by omega) hq
  have h5 : (m - k) * (t / m) ≤ m * (t / m) := Int.mul_le_mul_of_nonneg_right (by omega) hq
  split <;> omega
theorem evenP_bd (t m : Int) (k : Nat) (h1 : 0 < m) (ht : 0 ≤ t) (hb : t ≤ 1099511627776) : 0 ≤ evenP t m k ∧ evenP t m k ≤ 1099511627777 := by
  have hq : 0 ≤ t / m := Int.ediv_nonneg ht (by omega)
  have hq2 : t / m ≤ t := Int.ediv_le_self _ ht
  unfold evenP
  split <;> omega
theorem evenE_ok {t m : Int} (h : evenE t m = 0) : 0 ≤ t ∧ t ≤ 1099511627776 ∧ 1 ≤ m ∧ m ≤ 32 := by
  unfold evenE at h
  split at h <;> omega
theorem sum_even (t m : Int) (hm : 0 < m) : ∀ k : Nat, sumN k (evenP t m) = t - leftE t m k
  | 0 => by rw [leftE_zero t m hm]; simp [sumN]
  | k + 1 => by rw [sumN, sum_even t m hm k, leftE_succ]; omega
/-! Hamilton -/
def quo (t : Int) (ws : List Int) (S : Int) (i : Nat) : Int := t * wv ws i / S
def rem (t : Int) (ws : List Int) (S : Int) (i : Nat) : Int := t * wv ws i % S
/-- goes before: of a greater rest, or of the same and ahead -/
def bef (t : Int) (ws : List Int) (S : Int) (x y : Int) : Prop := rem t ws S y.toNat < rem t ws S x.toNat ∨ (rem t ws S x.toNat = rem t ws S y.toNat ∧ x < y)
instance (t : Int) (ws : List Int) (S x y : Int) : Decidable (bef t ws S x y) := by unfold bef; exact inferInstance
def rank (t : Int) (ws : List Int) (S : Int) (n i : Nat) : Int := sumN n (fun k => if bef t ws S k i then 1 else 0)
def hamP (t : Int) (ws : List Int) (S : Int) (n : Nat) (lf : Int) (i : Nat) : Int := quo t ws S i + if rank t ws S n i < lf then 1 else 0
def leftH (t : Int) (ws : List Int) (S : Int) (k : Nat) : Int := t - sumN k (quo t ws S)
def hamL (t : Int) (ws : List Int) (k : Nat) : List Int := (List.range k).map (hamP t ws (sumW ws ws.length) ws.length (leftH t ws (sumW ws ws.length) ws.length))
def hamR (t : Int) (ws : List Int) : List Int := if allE t ws = 0 then hamL t ws ws.length else []
theorem bef_ord (t : Int) (ws : List Int) (S : Int) : Ord (bef t ws S) := ⟨fun {x y z} h1 h2 => by unfold bef at *; omega, fun {x} h => by unfold bef at h; omega⟩
def cmpK (t : Int) (ws : List Int) (S : Int) (x y : Int) : Int := if rem t ws S y.toNat < rem t ws S x.toNat then -1 else if rem t ws S x.toNat < rem t ws S y.toNat then 1 else 0
theorem fit_of (t : Int) (ws : List Int) (S : Int) {x y : Int} (h : y < x) : Fit (cmpK t ws S) (bef t ws S) x y := by
  unfold Fit cmpK bef
  constructor
  · intro h1
    split at h1
    · exact .inl (by assumption)
    · split at h1 <;> omega
  · intro h1
    split at h1
    · omega
    · split at h1 <;> omega
section
variable {t : Int} {ws : List Int} (h : allE t ws = 0)
include h
theorem rem_bd (i : Nat) : 0 ≤ rem t ws (sumW ws ws.length) i ∧ rem t ws (sumW ws ws.length) i < sumW ws ws.length := by
  obtain ⟨_, _, _, _, h5, _⟩ := allE_ok h
  exact ⟨Int.emod_nonneg _ (by omega), Int.emod_lt_of_pos _ h5⟩
theorem prod_bd (i : Nat) : 0 ≤ t * wv ws i ∧ t * wv ws i ≤ 10000000000 := by
  obtain ⟨_, h2, h3, h4, _, _⟩ := allE_ok h
  have := wv_ok h4 i
  refine ⟨Int.mul_nonneg h2 this.1, ?_⟩
  have h6 : t * wv ws i ≤ t * 100000 := Int.mul_le_mul_of_nonneg_left this.2 h2
  omega
theorem quo_bd (i : Nat) : 0 ≤ quo t ws (sumW ws ws.length) i ∧ quo t ws (sumW ws ws.length) i ≤ t := by
  obtain ⟨h1, h2, h3, h4, h5, _⟩ := allE_ok h
  refine ⟨Int.ediv_nonneg (prod_bd h i).1 (by omega), ?_⟩
  unfold quo
  have hw : wv ws i ≤ sumW ws ws.length := by
    by_cases c : i < ws.length
    · exact sumN_pos _ (fun k _ => (wv_ok h4 k).1) i c
    · have : wv ws i = 0 := by unfold wv; simp [List.getD, List.getElem?_eq_none (show ws.length ≤ i by omega)]
      omega
  have : t * wv ws i ≤ t * sumW ws ws.length := Int.mul_le_mul_of_nonneg_left hw h2
  have := Int.ediv_le_ediv h5 this
  rw [Int.mul_ediv_cancel _ (by omega)] at this
  exact this
theorem left_bd : ∀ k, k ≤ ws.length → 0 ≤ leftH t ws (sumW ws ws.length) k ∧ leftH t ws (sumW ws ws.length) k ≤ t := fun k hk => by
  obtain ⟨h1, h2, h3, h4, h5, _⟩ := allE_ok h
  have hq := sumN_nonneg (g := quo t ws (sumW ws ws.length)) k (fun i _ => (quo_bd h i).1)
  unfold leftH
  refine ⟨?_, by omega⟩
  have hm : sumN k (quo t ws (sumW ws ws.length)) * sumW ws ws.length ≤ t * sumW ws ws.length := by
    rw [Int.mul_comm]
    have e1 : sumN k (fun i => sumW ws ws.length * quo t ws (sumW ws ws.length) i) ≤ sumN k (fun i => t * wv ws i) := sumN_le k (fun i _ => Int.mul_ediv_self_le (by omega))
    rw [sumN_mul, sumN_mul] at e1
    have e2 : sumN k (wv ws) ≤ sumW ws ws.length := by
      unfold sumW
      have : ∀ d, sumN k (wv ws) ≤ sumN (k + d) (wv ws) := fun d => by
        induction d with
        | zero => exact Int.le_refl _
        | succ d ih => have := (wv_ok h4 (k + d)).1; show _ ≤ sumN (k + d) (wv ws) + wv ws (k + d); omega
      have := this (ws.length - k)
      rwa [show k + (ws.length - k) = ws.length by omega] at this
    have := Int.mul_le_mul_of_nonneg_left e2 h2
    omega
  have := Int.le_of_mul_le_mul_right hm h5
  omega
omit h in
theorem left_sum : leftH t ws (sumW ws ws.length) ws.length * sumW ws ws.length = sumN ws.length (rem t ws (sumW ws ws.length)) := by
  have e : sumN ws.length (fun i => t * wv ws i) = sumN ws.length (fun i => sumW ws ws.length * quo t ws (sumW ws ws.length) i + rem t ws (sumW ws ws.length) i) := sumN_congr (fun i _ => (Int.mul_ediv_add_emod _ _).symm)
  rw [sumN_add, sumN_mul, sumN_mul] at e
  unfold leftH
  rw [Int.sub_mul, Int.mul_comm (sumN _ _)]
  show t * sumN ws.length (wv ws) - _ = _
  omega
theorem left_lt (hn : 0 < ws.length) : leftH t ws (sumW ws ws.length) ws.length < ws.length := by
  obtain ⟨h1, h2, h3, h4, h5, _⟩ := allE_ok h
  have e := left_sum (t := t) (ws := ws)
  have hb := sumN_bd (g := rem t ws (sumW ws ws.length)) ws.length (sumW ws ws.length - 1) (fun k _ => by have := (rem_bd h k).2; omega)
  rw [Int.mul_sub, Int.mul_one, ← e] at hb
  have : leftH t ws (sumW ws ws.length) ws.length * sumW ws ws.length < (ws.length : Int) * sumW ws ws.length := by omega
  exact Int.lt_of_mul_lt_mul_right this (by omega)
theorem len_pos : 0 < ws.length := by
  obtain ⟨_, _, _, _, h5, _⟩ := allE_ok h
  rcases Nat.eq_zero_or_pos ws.length with c | c
  · rw [c] at h5; simp [sumW, sumN] at h5
  · exact c
end
/-- where one stands in the sorted order is its rank -/
theorem rank_at {t : Int} {ws : List Int} {S : Int} {n : Nat} {d : Arr} (hp : Pm 0 n (fun k => (k : Int)) d) (hs : Srt (bef t ws S) d 0 n) (p : Nat) (hpn : p < n) : rank t ws S n (d p).toNat = p := by
  have hv : 0 ≤ d p := (hp.all (fun x => 0 ≤ x) (fun k _ _ => by omega) p (Nat.zero_le _) hpn)
  have hsum := hp.sum n (Nat.le_refl n) (fun x => if bef t ws S x (d p) then 1 else 0)
  unfold rank
  rw [show ((d p).toNat : Int) = d p by omega]
  rw [← hsum]
  have key : ∀ m, m ≤ n → sumN m (fun q => if bef t ws S (d q) (d p) then 1 else 0) = if m ≤ p then (m : Int) else p := by
    intro m
    induction m with
    | zero => intro _; simp [sumN]
    | succ m ih =>
      intro hm
      simp only [sumN]
      rw [ih (by omega)]
      by_cases c : m < p
      · rw [if_pos (hs m p (Nat.zero_le _) c hpn), if_pos (by omega), if_pos (by omega)]; omega
      · have : ¬ bef t ws S (d m) (d p) := fun hb => by
          by_cases c2 : m = p
          · subst c2; exact (bef_ord t ws S).ir hb
          · exact (bef_ord t ws S).ir ((bef_ord t ws S).tr hb (hs p m (Nat.zero_le _) (by omega) (by omega)))
        rw [if_neg this]
        by_cases c3 : m ≤ p
        · rw [if_pos c3, if_neg (by omega)]; omega
        · rw [if_neg c3, if_neg (by omega)]; omega
  rw [key n (Nat.le_refl n), if_neg (by omega)]
theorem sum_ind (n i : Nat) (hi : i < n) : sumN n (fun k => if (k : Int) = i then 1 else 0) = 1 := by
  induction n with
  | zero => omega
  | succ n ih =>
    simp only [sumN]
    by_cases c : i = n
    · subst c
      rw [if_pos rfl]
      have : sumN i (fun k => if (k : Int) = i then (1 : Int) else 0) = 0 := by
        exact (sumN_congr (fun k hk => if_neg (by omega))).trans (sumN_zero i)
      omega
    · rw [ih (by omega), if_neg (by omega)]; rfl
/-- each one stands somewhere in the order -/
theorem stands {n : Nat} {d : Arr} (hp : Pm 0 n (fun k => (k : Int)) d) (i : Nat) (hi : i < n) : ∃ p, p < n ∧ d p = i := by
  have hsum := hp.sum n (Nat.le_refl n) (fun x => if x = (i : Int) then 1 else 0)
  have h1 : sumN n (fun k => if ((k : Nat) : Int) = (i : Int) then (1 : Int) else 0) = 1 := sum_ind n i hi
  rw [h1] at hsum
  rcases Classical.em (∃ p, p < n ∧ d p = (i : Int)) with h | h
  · exact h
  · exfalso
    have : sumN n (fun k => if d k = (i : Int) then (1 : Int) else 0) = 0 := by
      exact (sumN_congr (fun k hk => if_neg (fun e => h ⟨k, hk, e⟩))).trans (sumN_zero n)
    omega
/-- the first so many of the order get one more -/
def more (d : Arr) (q : Nat → Int) : Nat → Nat → Int
  | 0, i => q i
  | k + 1, i => if d k = i then more d q k i + 1 else more d q k i
theorem more_is {n : Nat} {d : Arr} {t : Int} {ws : List Int} {S : Int} (q : Nat → Int) (hp : Pm 0 n (fun k => (k : Int)) d) (hs : Srt (bef t ws S) d 0 n) : ∀ (k : Nat), k ≤ n → ∀ i, i < n → more d q k i = q i + if rank t ws S n i < k then 1 else 0
  | 0, _, i, _ => by
    have : ¬ rank t ws S n i < ((0 : Nat) : Int) := by
      have := sumN_nonneg (g := fun k => if bef t ws S k i then (1 : Int) else 0) n (fun k _ => by show 0 ≤ if _ then (1 : Int) else 0; split <;> omega)
      unfold rank; omega
    rw [if_neg this]; simp [more]
  | k + 1, hk, i, hi => by
    have ih := more_is q hp hs k (by omega) i hi
    have hr := rank_at hp hs k (by omega)
    simp only [more]
    by_cases c : d k = (i : Int)
    · rw [if_pos c, ih]
      rw [c] at hr
      simp only [Int.toNat_natCast] at hr
      rw [hr, if_neg (by omega), if_pos (by omega)]; omega
    · rw [if_neg c, ih]
      obtain ⟨p, hpn, hpi⟩ := stands hp i hi
      have hr2 := rank_at hp hs p hpn
      rw [hpi] at hr2
      simp only [Int.toNat_natCast] at hr2
      have hpk : p ≠ k := fun e => c (by rw [← e]; exact hpi)
      rw [hr2]
      split <;> split <;> omega
end Sh
end Go.Proofs.Ytjicpflgkhdppaa
