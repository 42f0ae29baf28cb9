/- The plain law of a stable sort: an array as a function of its places, changed by swaps; insertion; a merge of two runs that turns a middle piece about. -/
import Derived.Test.YtjicpflgkhdppaaBase
set_option linter.unusedSimpArgs false
set_option linter.unusedVariables false
namespace Go.Proofs.Ytjicpflgkhdppaa
namespace Stb
abbrev Arr := Nat → Int
def swp (d : Arr) (i j : Nat) : Arr := fun k => if k = i then d j else if k = j then d i else d k
inductive Pm (a b : Nat) : Arr → Arr → Prop
  | refl (d : Arr) : Pm a b d d
  | step {d e : Arr} (i j : Nat) : Pm a b d e → a ≤ i → i < b → a ≤ j → j < b → Pm a b d (swp e i j)
def sumN : Nat → (Nat → Int) → Int
  | 0, _ => 0
  | n + 1, g => sumN n g + g n
section
variable {a b a' b' : Nat} {d e f : Arr}
theorem Pm.trans (h : Pm a b d e) (k : Pm a b e f) : Pm a b d f := by
  induction k with
  | refl => exact h
  | step i j _ h1 h2 h3 h4 ih => exact Pm.step i j ih h1 h2 h3 h4
theorem Pm.mono (h : Pm a b d e) (ha : a' ≤ a) (hb : b ≤ b') : Pm a' b' d e := by
  induction h with
  | refl => exact Pm.refl _
  | step i j _ h1 h2 h3 h4 ih => exact Pm.step i j ih (by omega) (by omega) (by omega) (by omega)
theorem Pm.out (h : Pm a b d e) : ∀ k, ¬ (a ≤ k ∧ k < b) → e k = d k := by
  induction h with
  | refl => intro k _; rfl
  | step i j _ h1 h2 h3 h4 ih =>
    intro k hk
    unfold swp
    rw [if_neg (by omega), if_neg (by omega)]
    exact ih k hk
theorem Pm.all (h : Pm a b d e) (Q : Int → Prop) (hQ : ∀ k, a ≤ k → k < b → Q (d k)) : ∀ k, a ≤ k → k < b → Q (e k) := by
  induction h with
  | refl => exact hQ
  | step i j _ h1 h2 h3 h4 ih =>
    intro k hk1 hk2
    unfold swp
    split
    · exact ih j h3 h4
    · split
      · exact ih i h1 h2
      · exact ih k hk1 hk2
theorem sumN_congr {n : Nat} {g h : Nat → Int} (e : ∀ k, k < n → g k = h k) : sumN n g = sumN n h := by
  induction n with
  | zero => rfl
  | succ n ih => simp only [sumN]; rw [ih (fun k hk => e k (by omega)), e n (by omega)]
theorem sumN_upd (n : Nat) (g : Nat → Int) (i : Nat) (v : Int) : sumN n (fun k => if k = i then v else g k) = if i < n then sumN n g - g i + v else sumN n g := by
  induction n with
  | zero => simp [sumN]
  | succ n ih =>
    simp only [sumN]
    rw [ih]
    by_cases c : n = i
    · subst c
      rw [if_pos rfl, if_neg (by omega), if_pos (by omega)]; omega
    · rw [if_neg c]
      by_cases c2 : i < n
      · rw [if_pos c2, if_pos (by omega)]; omega
      · rw [if_neg c2, if_neg (by omega)]
theorem sumN_swp (n : Nat) (g : Int → Int) (d : Arr) (i j : Nat) (hi : i < n) (hj : j < n) : sumN n (fun k => g (swp d i j k)) = sumN n (fun k => g (d k)) := by
  have h1 := sumN_upd n (fun k => g (d k)) j (g (d i))
  have h2 := sumN_upd n (fun k => if k = j then g (d i) else g (d k)) i (g (d j))
  rw [if_pos hj] at h1
  rw [if_pos hi, h1] at h2
  have e : sumN n (fun k => g (swp d i j k)) = sumN n (fun k => if k = i then g (d j) else if k = j then g (d i) else g (d k)) := sumN_congr (fun k _ => by
    unfold swp; split
    · rfl
    · split <;> rfl)
  rw [e, h2]
  split
  · rename_i c; subst c; omega
  · omega
theorem Pm.sum (h : Pm a b d e) (n : Nat) (hb : b ≤ n) (g : Int → Int) : sumN n (fun k => g (e k)) = sumN n (fun k => g (d k)) := by
  induction h with
  | refl => rfl
  | step i j _ h1 h2 h3 h4 ih => rw [sumN_swp n g _ i j (by omega) (by omega), ih]
end
/-- sorted from a to b -/
def Srt (r : Int → Int → Prop) (d : Arr) (a b : Nat) : Prop := ∀ i j, a ≤ i → i < j → j < b → r (d i) (d j)
/-- what is held against what by K is held by r -/
def Fit (K : Int → Int → Int) (r : Int → Int → Prop) (x y : Int) : Prop := (K x y < 0 → r x y) ∧ (¬ K x y < 0 → r y x)
/-- what stands in the right one of two runs is held against the left one's by K as by r -/
def Crs (K : Int → Int → Int) (r : Int → Int → Prop) (d : Arr) (a m b : Nat) : Prop := ∀ i j, a ≤ i → i < m → m ≤ j → j < b → Fit K r (d j) (d i)
/-- an order that parts all -/
structure Ord (r : Int → Int → Prop) : Prop where
  tr : ∀ {x y z}, r x y → r y z → r x z
  ir : ∀ {x}, ¬ r x x
theorem Srt.congr {r : Int → Int → Prop} {d e : Arr} {a b : Nat} (h : Srt r d a b) (he : ∀ k, a ≤ k → k < b → e k = d k) : Srt r e a b := fun i j h1 h2 h3 => by
  rw [he i h1 (by omega), he j (by omega) h3]; exact h i j h1 h2 h3
theorem Srt.one {r : Int → Int → Prop} {d : Arr} {a b : Nat} (h : b ≤ a + 1) : Srt r d a b := fun i j h1 h2 h3 => by omega
/-- two sorted pieces side by side -/
theorem Srt.join {r : Int → Int → Prop} {d : Arr} {a m b : Nat} (h1 : Srt r d a m) (h2 : Srt r d m b) (h : ∀ i j, a ≤ i → i < m → m ≤ j → j < b → r (d i) (d j)) : Srt r d a b := fun i j g1 g2 g3 => by
  by_cases c1 : j < m
  · exact h1 i j g1 g2 c1
  · by_cases c2 : i < m
    · exact h i j g1 c2 (by omega) g3
    · exact h2 i j (by omega) g2 g3
/-! insertion -/
/-- sorted but for place j, which goes before all behind it -/
structure Insd (r : Int → Int → Prop) (d : Arr) (a i j : Nat) : Prop where
  rest : ∀ p q, a ≤ p → p < q → q ≤ i → p ≠ j → q ≠ j → r (d p) (d q)
  behind : ∀ q, j < q → q ≤ i → r (d j) (d q)
theorem Insd.start {r : Int → Int → Prop} {d : Arr} {a i : Nat} (h : Srt r d a i) : Insd r d a i i := ⟨fun p q h1 h2 h3 _ h5 => h p q h1 h2 (by omega), fun q h1 h2 => by omega⟩
theorem Insd.step {r : Int → Int → Prop} {d : Arr} {a i j : Nat} (h : Insd r d a i j) (hj : a < j) (hi : j ≤ i) (hr : r (d j) (d (j - 1))) : Insd r (swp d j (j - 1)) a i (j - 1) := by
  refine ⟨fun p q h1 h2 h3 h4 h5 => ?_, fun q h1 h2 => ?_⟩
  · unfold swp
    by_cases cp : p = j
    · subst cp
      rw [if_pos rfl, if_neg (by omega), if_neg h5]
      exact h.rest (p - 1) q (by omega) (by omega) h3 (by omega) (by omega)
    · rw [if_neg cp, if_neg h4]
      by_cases cq : q = j
      · subst cq
        rw [if_pos rfl]
        exact h.rest p (q - 1) h1 (by omega) (by omega) (by omega) (by omega)
      · rw [if_neg cq, if_neg h5]
        exact h.rest p q h1 h2 h3 cp cq
  · unfold swp
    rw [if_neg (by omega), if_pos rfl]
    by_cases cq : q = j
    · rw [if_pos cq]; exact hr
    · rw [if_neg cq, if_neg (by omega)]
      exact h.behind q (by omega) h2
theorem Insd.done {r : Int → Int → Prop} (ho : Ord r) {d : Arr} {a i j : Nat} (h : Insd r d a i j) (hj : a ≤ j) (hi : j ≤ i) (hr : j = a ∨ r (d (j - 1)) (d j)) : Srt r d a (i + 1) := fun p q h1 h2 h3 => by
  by_cases cp : p = j
  · subst cp; exact h.behind q h2 (by omega)
  · by_cases cq : q = j
    · subst cq
      rcases hr with rfl | hr
      · omega
      · by_cases c : p = q - 1
        · subst c; exact hr
        · exact ho.tr (h.rest p (q - 1) h1 (by omega) (by omega) cp (by omega)) hr
    · exact h.rest p q h1 h2 (by omega) cp cq
/-! a middle piece turned about -/
def rot (d : Arr) (a m b : Nat) : Arr := fun k => if a ≤ k ∧ k < b then (if k < a + (b - m) then d (k - a + m) else d (k - (b - m))) else d k
/-- so many of two ranges exchanged -/
def xch (d : Arr) (a b n : Nat) : Arr := fun k => if a ≤ k ∧ k < a + n then d (k - a + b) else if b ≤ k ∧ k < b + n then d (k - b + a) else d k
theorem xch_zero (d : Arr) (a b : Nat) : xch d a b 0 = d := funext fun k => by
  unfold xch; rw [if_neg (by omega), if_neg (by omega)]
theorem xch_succ (d : Arr) (a b n : Nat) (h : a + n < b) : xch d a b (n + 1) = swp (xch d a b n) (a + n) (b + n) := funext fun k => by
  unfold swp
  by_cases c1 : k = a + n
  · subst c1
    rw [if_pos rfl]
    unfold xch
    rw [if_pos (by omega), if_neg (by omega), if_neg (by omega)]
    congr 1; omega
  · rw [if_neg c1]
    by_cases c2 : k = b + n
    · subst c2
      rw [if_pos rfl]
      unfold xch
      rw [if_neg (by omega), if_pos (by omega), if_neg (by omega), if_neg (by omega)]
      congr 1; omega
    · rw [if_neg c2]
      unfold xch
      by_cases c3 : a ≤ k ∧ k < a + n
      · rw [if_pos c3, if_pos (by omega)]
      · rw [if_neg c3, if_neg (by omega)]
        by_cases c4 : b ≤ k ∧ k < b + n
        · rw [if_pos c4, if_pos (by omega)]
        · rw [if_neg c4, if_neg (by omega)]
theorem xch_pm (d : Arr) (a b : Nat) {lo hi : Nat} : ∀ n, a + n ≤ b → lo ≤ a → b + n ≤ hi → Pm lo hi d (xch d a b n)
  | 0, _, _, _ => by rw [xch_zero]; exact Pm.refl d
  | n + 1, h, hl, hh => by
    rw [xch_succ d a b n (by omega)]
    exact Pm.step _ _ (xch_pm d a b n (by omega) hl (by omega)) (by omega) (by omega) (by omega) (by omega)
theorem rot_eq (d : Arr) (m i : Nat) (h : i ≤ m) : rot d (m - i) m (m + i) = xch d (m - i) m i := funext fun k => by
  unfold rot xch
  by_cases c1 : m - i ≤ k ∧ k < m - i + i
  · rw [if_pos c1, if_pos (by omega), if_pos (by omega)]
  · rw [if_neg c1]
    by_cases c2 : m ≤ k ∧ k < m + i
    · rw [if_pos c2, if_pos (by omega), if_neg (by omega)]; congr 1; omega
    · rw [if_neg c2, if_neg (by omega)]
theorem rot_gt (d : Arr) (m i j : Nat) (h : i ≤ m) (hij : j < i) : rot (xch d (m - i) m j) (m - (i - j)) m (m + j) = rot d (m - i) m (m + j) := funext fun k => by
  unfold rot
  by_cases c1 : m - i ≤ k ∧ k < m + j
  · rw [if_pos c1]
    by_cases c2 : k < m - i + (m + j - m)
    · rw [if_pos c2, if_neg (by omega)]
      unfold xch
      rw [if_pos (by omega)]
    · rw [if_neg c2, if_pos (by omega)]
      by_cases c3 : k < m - (i - j) + (m + j - m)
      · rw [if_pos c3]
        unfold xch
        rw [if_neg (by omega), if_pos (by omega)]
        congr 1; omega
      · rw [if_neg c3]
        unfold xch
        rw [if_neg (by omega), if_neg (by omega)]
  · rw [if_neg c1, if_neg (by omega)]
    unfold xch
    rw [if_neg (by omega), if_neg (by omega)]
theorem rot_lt (d : Arr) (m i j : Nat) (h : i ≤ m) (hij : i < j) : rot (xch d (m - i) (m + j - i) i) (m - i) m (m + (j - i)) = rot d (m - i) m (m + j) := funext fun k => by
  unfold rot
  by_cases c1 : m - i ≤ k ∧ k < m + j
  · rw [if_pos c1]
    by_cases c2 : k < m - i + (m + j - m)
    · rw [if_pos c2]
      by_cases c4 : k < m + (j - i)
      · rw [if_pos (by omega)]
        by_cases c3 : k < m - i + (m + (j - i) - m)
        · rw [if_pos c3]
          unfold xch
          rw [if_neg (by omega), if_neg (by omega)]
        · rw [if_neg c3]
          unfold xch
          rw [if_pos (by omega)]
          congr 1; omega
      · omega
    · rw [if_neg c2, if_neg (by omega)]
      unfold xch
      rw [if_neg (by omega), if_pos (by omega)]
      congr 1; omega
  · rw [if_neg c1, if_neg (by omega)]
    unfold xch
    rw [if_neg (by omega), if_neg (by omega)]
theorem rot_none (d : Arr) (a m b : Nat) (h : a = m ∨ m = b) (hm : a ≤ m) (hb : m ≤ b) : rot d a m b = d := funext fun k => by
  unfold rot
  by_cases c1 : a ≤ k ∧ k < b
  · rw [if_pos c1]
    rcases h with rfl | rfl
    · rw [if_pos (by omega)]; congr 1; omega
    · rw [if_neg (by omega)]; congr 1; omega
  · rw [if_neg c1]
/-! where the two runs part -/
/-- the two runs of [a, b) at m; mid; where they part: what is ahead of it stays -/
structure Part (r : Int → Int → Prop) (d : Arr) (a m b mid s : Nat) : Prop where
  lo : a ≤ s
  mi : s ≤ mid
  m1 : s ≤ m
  b1 : mid + m - s ≤ b
  left : a < s → mid + m - s < b → r (d (s - 1)) (d (mid + m - s))
  right : s < m → s < mid → r (d (mid + m - 1 - s)) (d s)
/-- behind the turn all of the left half goes before all of the right half -/
theorem part_ok {r : Int → Int → Prop} (ho : Ord r) {d : Arr} {a m b mid s : Nat} (h1 : Srt r d a m) (h2 : Srt r d m b) (hm : a ≤ m) (hb : m ≤ b) (hmid : a ≤ mid ∧ mid ≤ b) (hp : Part r d a m b mid s) :
    ∀ i j, a ≤ i → i < mid → mid ≤ j → j < b → r (rot d s m (mid + m - s) i) (rot d s m (mid + m - s) j) := by
  obtain ⟨p1, p2, p3, p4, p5, p6⟩ := hp
  -- what each place holds
  have hA1 : ∀ i, a ≤ i → i < s → rot d s m (mid + m - s) i = d i := fun i g1 g2 => by unfold rot; rw [if_neg (by omega)]
  have hB1 : ∀ i, s ≤ i → i < mid → rot d s m (mid + m - s) i = d (i - s + m) := fun i g1 g2 => by unfold rot; rw [if_pos (by omega), if_pos (by omega)]
  have hA2 : ∀ i, mid ≤ i → i < mid + m - s → rot d s m (mid + m - s) i = d (i - mid + s) := fun i g1 g2 => by unfold rot; rw [if_pos (by omega), if_neg (by omega)]; congr 1; omega
  have hB2 : ∀ i, mid + m - s ≤ i → i < b → rot d s m (mid + m - s) i = d i := fun i g1 g2 => by unfold rot; rw [if_neg (by omega)]
  intro i j g1 g2 g3 g4
  by_cases ci : i < s
  · rw [hA1 i g1 ci]
    by_cases cj : j < mid + m - s
    · rw [hA2 j g3 cj]
      exact h1 i (j - mid + s) g1 (by omega) (by omega)
    · rw [hB2 j (by omega) g4]
      have e1 := p5 (by omega) (by omega)
      have e2 : r (d i) (d (mid + m - s)) := by
        by_cases c : i = s - 1
        · rw [c]; exact e1
        · exact ho.tr (h1 i (s - 1) g1 (by omega) (by omega)) e1
      by_cases c : j = mid + m - s
      · rw [c]; exact e2
      · exact ho.tr e2 (h2 (mid + m - s) j (by omega) (by omega) g4)
  · rw [hB1 i (by omega) g2]
    by_cases cj : j < mid + m - s
    · rw [hA2 j g3 cj]
      have e1 := p6 (by omega) (by omega)
      have e2 : r (d (i - s + m)) (d s) := by
        by_cases c : i - s + m = mid + m - 1 - s
        · rw [c]; exact e1
        · exact ho.tr (h2 (i - s + m) (mid + m - 1 - s) (by omega) (by omega) (by omega)) e1
      by_cases c : j - mid + s = s
      · rw [c]; exact e2
      · exact ho.tr e2 (h1 s (j - mid + s) (by omega) (by omega) (by omega))
    · rw [hB2 j (by omega) g4]
      exact h2 (i - s + m) j (by omega) (by omega) g4
/-- the runs of the left half -/
theorem part_left {K : Int → Int → Int} {r : Int → Int → Prop} {d : Arr} {a m b mid s : Nat} (hc : Crs K r d a m b) (h1 : Srt r d a m) (h2 : Srt r d m b) (p1 : a ≤ s) (p2 : s ≤ mid) (p3 : s ≤ m) (p4 : mid + m - s ≤ b) :
    Crs K r (rot d s m (mid + m - s)) a s mid ∧ Srt r (rot d s m (mid + m - s)) a s ∧ Srt r (rot d s m (mid + m - s)) s mid := by
  have hA1 : ∀ i, a ≤ i → i < s → rot d s m (mid + m - s) i = d i := fun i g1 g2 => by unfold rot; rw [if_neg (by omega)]
  have hB1 : ∀ i, s ≤ i → i < mid → rot d s m (mid + m - s) i = d (i - s + m) := fun i g1 g2 => by unfold rot; rw [if_pos (by omega), if_pos (by omega)]
  refine ⟨fun i j g1 g2 g3 g4 => ?_, fun i j g1 g2 g3 => ?_, fun i j g1 g2 g3 => ?_⟩
  · rw [hA1 i g1 g2, hB1 j g3 g4]; exact hc i _ g1 (by omega) (by omega) (by omega)
  · rw [hA1 i g1 (by omega), hA1 j (by omega) g3]; exact h1 i j g1 g2 (by omega)
  · rw [hB1 i g1 (by omega), hB1 j (by omega) g3]; exact h2 _ _ (by omega) (by omega) (by omega)
/-- the runs of the right half -/
theorem part_right {K : Int → Int → Int} {r : Int → Int → Prop} {d : Arr} {a m b mid s : Nat} (hc : Crs K r d a m b) (h1 : Srt r d a m) (h2 : Srt r d m b) (p1 : a ≤ s) (p2 : s ≤ mid) (p3 : s ≤ m) (p4 : mid + m - s ≤ b) :
    Crs K r (rot d s m (mid + m - s)) mid (mid + m - s) b ∧ Srt r (rot d s m (mid + m - s)) mid (mid + m - s) ∧ Srt r (rot d s m (mid + m - s)) (mid + m - s) b := by
  have hA2 : ∀ i, mid ≤ i → i < mid + m - s → rot d s m (mid + m - s) i = d (i - mid + s) := fun i g1 g2 => by unfold rot; rw [if_pos (by omega), if_neg (by omega)]; congr 1; omega
  have hB2 : ∀ i, mid + m - s ≤ i → i < b → rot d s m (mid + m - s) i = d i := fun i g1 g2 => by unfold rot; rw [if_neg (by omega)]
  refine ⟨fun i j g1 g2 g3 g4 => ?_, fun i j g1 g2 g3 => ?_, fun i j g1 g2 g3 => ?_⟩
  · rw [hA2 i g1 g2, hB2 j g3 g4]; exact hc _ j (by omega) (by omega) (by omega) g4
  · rw [hA2 i g1 (by omega), hA2 j (by omega) g3]; exact h1 _ _ (by omega) (by omega) (by omega)
  · rw [hB2 i g1 (by omega), hB2 j (by omega) g3]; exact h2 _ _ (by omega) (by omega) (by omega)
/-- both halves sorted: all is sorted -/
theorem halves {r : Int → Int → Prop} {d e f : Arr} {a mid b : Nat} (hd : ∀ i j, a ≤ i → i < mid → mid ≤ j → j < b → r (d i) (d j)) (h1 : Pm a mid d e) (s1 : Srt r e a mid) (h2 : Pm mid b e f) (s2 : Srt r f mid b) : Srt r f a b := by
  have q1 : ∀ k, a ≤ k → k < mid → ∀ j, mid ≤ j → j < b → r (e k) (d j) := fun k g1 g2 => h1.all (fun x => ∀ j, mid ≤ j → j < b → r x (d j)) (fun i c1 c2 j c3 c4 => hd i j c1 c2 c3 c4) k g1 g2
  have q2 : ∀ k, mid ≤ k → k < b → ∀ i, a ≤ i → i < mid → r (e i) (f k) := fun k g1 g2 => h2.all (fun x => ∀ i, a ≤ i → i < mid → r (e i) x) (fun j c1 c2 i c3 c4 => by
    rw [h1.out j (by omega)]; exact q1 i c3 c4 j c1 c2) k g1 g2
  refine (s1.congr (fun k _ g2 => h2.out k (by omega))).join s2 (fun i j g1 g2 g3 g4 => ?_)
  rw [h2.out i (by omega)]
  exact q2 j g3 g4 i g1 g2
theorem Fit.lt {K : Int → Int → Int} {r : Int → Int → Prop} {x y : Int} (ho : Ord r) (h : Fit K r x y) (hr : r x y) : K x y < 0 := by
  by_cases c : K x y < 0
  · exact c
  · exact absurd (ho.tr hr (h.2 c)) ho.ir
theorem Fit.ge {K : Int → Int → Int} {r : Int → Int → Prop} {x y : Int} (ho : Ord r) (h : Fit K r x y) (hr : r y x) : ¬ K x y < 0 := fun c => absurd (ho.tr hr (h.1 c)) ho.ir
theorem rot_pm (d : Arr) (m lo hi : Nat) : ∀ (n i j : Nat) (d : Arr), i + j ≤ n → i ≤ m → lo ≤ m - i → m + j ≤ hi → Pm lo hi d (rot d (m - i) m (m + j))
  | 0, i, j, d, h, _, _, _ => by
    obtain rfl : i = 0 := by omega
    obtain rfl : j = 0 := by omega
    rw [rot_none d _ _ _ (.inl (by omega)) (by omega) (by omega)]; exact Pm.refl d
  | n + 1, i, j, d, h, hm, hl, hh => by
    by_cases c0 : i = 0
    · subst c0; rw [rot_none d _ _ _ (.inl (by omega)) (by omega) (by omega)]; exact Pm.refl d
    · by_cases c1 : j = 0
      · subst c1; rw [rot_none d _ _ _ (.inr (by omega)) (by omega) (by omega)]; exact Pm.refl d
      · rcases Nat.lt_trichotomy i j with c | c | c
        · rw [← rot_lt d m i j hm c]
          exact (xch_pm d (m - i) (m + j - i) i (by omega) hl (by omega)).trans (rot_pm d m lo hi n i (j - i) _ (by omega) hm hl (by omega))
        · subst c
          rw [rot_eq d m i hm]
          exact xch_pm d (m - i) m i (by omega) hl hh
        · rw [← rot_gt d m i j hm c]
          exact (xch_pm d (m - i) m j (by omega) hl (by omega)).trans (rot_pm d m lo hi n (i - j) j _ (by omega) (by omega) (by omega) hh)
/-- sorted but for one place -/
def Mv (r : Int → Int → Prop) (f : Arr) (a b k : Nat) : Prop := ∀ p q, a ≤ p → p < q → q < b → p ≠ k → q ≠ k → r (f p) (f q)
theorem Mv.up {r : Int → Int → Prop} {f : Arr} {a b k : Nat} (h : Mv r f a b k) (hk : k + 1 < b) (ha : a ≤ k) : Mv r (swp f k (k + 1)) a b (k + 1) := fun p q g1 g2 g3 g4 g5 => by
  unfold swp
  by_cases cp : p = k
  · subst cp
    rw [if_pos rfl, if_neg (by omega), if_neg g5]
    exact h (p + 1) q (by omega) (by omega) g3 (by omega) (by omega)
  · rw [if_neg cp, if_neg g4]
    by_cases cq : q = k
    · subst cq
      rw [if_pos rfl]
      exact h p (q + 1) g1 (by omega) hk cp (by omega)
    · rw [if_neg cq, if_neg g5]
      exact h p q g1 g2 g3 cp cq
theorem Mv.down {r : Int → Int → Prop} {f : Arr} {a b k : Nat} (h : Mv r f a b k) (hk : a < k) (hb : k < b) : Mv r (swp f k (k - 1)) a b (k - 1) := fun p q g1 g2 g3 g4 g5 => by
  unfold swp
  by_cases cp : p = k
  · subst cp
    rw [if_pos rfl, if_neg (by omega), if_neg g5]
    exact h (p - 1) q (by omega) (by omega) g3 (by omega) (by omega)
  · rw [if_neg cp, if_neg g4]
    by_cases cq : q = k
    · subst cq
      rw [if_pos rfl]
      exact h p (q - 1) g1 (by omega) (by omega) cp (by omega)
    · rw [if_neg cq, if_neg g5]
      exact h p q g1 g2 g3 cp cq
theorem Mv.done {r : Int → Int → Prop} {f : Arr} {a b k : Nat} (h : Mv r f a b k) (h1 : ∀ p, a ≤ p → p < k → r (f p) (f k)) (h2 : ∀ p, k < p → p < b → r (f k) (f p)) : Srt r f a b := fun p q g1 g2 g3 => by
  by_cases cp : p = k
  · subst cp; exact h2 q g2 g3
  · by_cases cq : q = k
    · subst cq; exact h1 p g1 g2
    · exact h p q g1 g2 g3 cp cq
end Stb
end Go.Proofs.Ytjicpflgkhdppaa
