/- Fares: what mending reckons, range by range, the short ones first: and that it answers to mending's rule. -/
import Derived.Test.YtcppeligeodomaaFarePlain3
set_option linter.unusedVariables false
namespace Go.Proofs.Ytcppeligeodomaa
namespace Fa
/-- of one size, so many from a on -/
def rowN (s : Nat) : Nat → Nat → List (Nat × Nat)
  | 0, _ => []
  | k + 1, a => (a, a + s) :: rowN s k (a + 1)
def allN (n : Nat) : Nat → Nat → List (Nat × Nat)
  | 0, _ => []
  | k + 1, s => rowN s (n - s) 0 ++ allN n k (s + 1)
def rngN (n : Nat) : List (Nat × Nat) := allN n n 0
theorem mem_rowN (s : Nat) : ∀ (k a : Nat) (q : Nat × Nat), q ∈ rowN s k a ↔ a ≤ q.1 ∧ q.1 < a + k ∧ q.2 = q.1 + s
  | 0, a, q => by simp [rowN]; omega
  | k + 1, a, q => by
    simp only [rowN, List.mem_cons, mem_rowN s k (a + 1)]
    constructor
    · rintro (rfl | ⟨h1, h2, h3⟩)
      · exact ⟨Nat.le_refl _, by simp, rfl⟩
      · exact ⟨by omega, by omega, h3⟩
    · rintro ⟨h1, h2, h3⟩
      by_cases e : q.1 = a
      · left; exact Prod.ext e (by rw [h3, e])
      · right; exact ⟨by omega, by omega, h3⟩
theorem mem_allN (n : Nat) : ∀ (k s : Nat) (q : Nat × Nat), s + k ≤ n → (q ∈ allN n k s ↔ q.1 + s ≤ q.2 ∧ q.2 < q.1 + s + k ∧ q.2 < n)
  | 0, s, q, _ => by simp [allN]; omega
  | k + 1, s, q, h => by
    simp only [allN, List.mem_append, mem_allN n k (s + 1) q (by omega), mem_rowN]
    omega
theorem mem_rngN (n : Nat) (q : Nat × Nat) : q ∈ rngN n ↔ q.1 ≤ q.2 ∧ q.2 < n := by
  unfold rngN; rw [mem_allN n n 0 q (by omega)]; omega
/-- the least of all ranges that have zones a to b -/
def cheap (m : List (List Int)) (a b : Nat) (l : List (Nat × Nat)) (v : Int) : Int := l.foldl (fun v q => if q.1 ≤ a ∧ b ≤ q.2 then min v (price m q.1 q.2) else v) v
theorem cheap_snoc (m : List (List Int)) (a b : Nat) (l : List (Nat × Nat)) (q : Nat × Nat) (v : Int) : cheap m a b (l ++ [q]) v = if q.1 ≤ a ∧ b ≤ q.2 then min (cheap m a b l v) (price m q.1 q.2) else cheap m a b l v := by
  unfold cheap; rw [List.foldl_append]; rfl
theorem cheap_le (m : List (List Int)) (a b : Nat) : ∀ (l : List (Nat × Nat)) (v : Int), cheap m a b l v ≤ v ∧ ∀ q ∈ l, q.1 ≤ a → b ≤ q.2 → cheap m a b l v ≤ price m q.1 q.2
  | [], v => ⟨Int.le_refl _, fun q h => by simp at h⟩
  | p :: l, v => by
    have h := cheap_le m a b l (if p.1 ≤ a ∧ b ≤ p.2 then min v (price m p.1 p.2) else v)
    refine ⟨Int.le_trans h.1 (by split <;> omega), fun q hq h1 h2 => ?_⟩
    rcases List.mem_cons.1 hq with rfl | hq
    · refine Int.le_trans h.1 ?_
      rw [if_pos ⟨h1, h2⟩]; omega
    · exact h.2 q hq h1 h2
theorem cheap_is (m : List (List Int)) (a b : Nat) : ∀ (l : List (Nat × Nat)) (v : Int), cheap m a b l v = v ∨ ∃ q ∈ l, q.1 ≤ a ∧ b ≤ q.2 ∧ cheap m a b l v = price m q.1 q.2
  | [], v => .inl rfl
  | p :: l, v => by
    have e : cheap m a b (p :: l) v = cheap m a b l (if p.1 ≤ a ∧ b ≤ p.2 then min v (price m p.1 p.2) else v) := rfl
    rw [e]
    rcases cheap_is m a b l (if p.1 ≤ a ∧ b ≤ p.2 then min v (price m p.1 p.2) else v) with h | ⟨q, h1, h2, h3, h4⟩
    · rw [h]
      by_cases hc : p.1 ≤ a ∧ b ≤ p.2
      · rw [if_pos hc]
        by_cases hm : v ≤ price m p.1 p.2
        · left; omega
        · right; exact ⟨p, by simp, hc.1, hc.2, by omega⟩
      · rw [if_neg hc]; exact .inl rfl
    · exact .inr ⟨q, by simp [h1], h2, h3, h4⟩
/-- and of so many cuts in two -/
def parts (O : List (List Int)) (a b : Nat) : Nat → Int → Int
  | 0, v => v
  | k + 1, v => min (parts O a b k v) (price O a (a + k) + price O (a + k + 1) b)
theorem parts_le (O : List (List Int)) (a b : Nat) (v : Int) : ∀ k, parts O a b k v ≤ v ∧ ∀ c, a ≤ c → c < a + k → parts O a b k v ≤ price O a c + price O (c + 1) b
  | 0 => ⟨Int.le_refl _, fun c h1 h2 => by omega⟩
  | k + 1 => by
    have h := parts_le O a b v k
    have e : parts O a b (k + 1) v = min (parts O a b k v) (price O a (a + k) + price O (a + k + 1) b) := rfl
    refine ⟨by omega, fun c h1 h2 => ?_⟩
    by_cases hc : c = a + k
    · subst hc; omega
    · have := h.2 c h1 (by omega); omega
theorem parts_is (O : List (List Int)) (a b : Nat) (v : Int) : ∀ k, parts O a b k v = v ∨ ∃ c, a ≤ c ∧ c < a + k ∧ parts O a b k v = price O a c + price O (c + 1) b
  | 0 => .inl rfl
  | k + 1 => by
    have e : parts O a b (k + 1) v = min (parts O a b k v) (price O a (a + k) + price O (a + k + 1) b) := rfl
    by_cases hm : parts O a b k v ≤ price O a (a + k) + price O (a + k + 1) b
    · have e2 : parts O a b (k + 1) v = parts O a b k v := by omega
      rcases parts_is O a b v k with h | ⟨c, h1, h2, h3⟩
      · left; omega
      · right; exact ⟨c, h1, by omega, by omega⟩
    · right; exact ⟨a + k, by omega, by omega, by omega⟩
theorem parts_congr (O O' : List (List Int)) (a b : Nat) (v : Int) : ∀ k, (∀ c, a ≤ c → c < a + k → price O a c = price O' a c ∧ price O (c + 1) b = price O' (c + 1) b) → parts O a b k v = parts O' a b k v
  | 0, _ => rfl
  | k + 1, h => by
    unfold parts
    rw [parts_congr O O' a b v k (fun c h1 h2 => h c h1 (by omega)), (h (a + k) (by omega) (by omega)).1, (h (a + k) (by omega) (by omega)).2]
def best (m O : List (List Int)) (a b : Nat) : Int := parts O a b (b - a) (cheap m a b (rngN m.length) (price m a b))
def setP (O : List (List Int)) (a b : Nat) (v : Int) : List (List Int) := O.set a ((O.getD a []).set (b - a) v)
/-- as many rows, each as long as it must be -/
structure Shape (n : Nat) (O : List (List Int)) : Prop where
  len : O.length = n
  row : ∀ i, i < n → (O.getD i []).length = n - i
theorem getD_set {α : Type} (l : List α) (i j : Nat) (v d : α) (hi : i < l.length) : (l.set i v).getD j d = if j = i then v else l.getD j d := by
  rw [List.getD_eq_getElem?_getD, List.getElem?_set]
  by_cases h : i = j
  · subst h; rw [if_pos rfl, if_pos hi, if_pos rfl]; rfl
  · rw [if_neg h, if_neg (fun e => h e.symm), List.getD_eq_getElem?_getD]
theorem price_setP {n : Nat} {O : List (List Int)} (h : Shape n O) {a b : Nat} (hab : a ≤ b) (hb : b < n) (v : Int) (x y : Nat) (hxy : x ≤ y) : price (setP O a b v) x y = if x = a ∧ y = b then v else price O x y := by
  unfold price setP
  rw [getD_set _ _ _ _ _ (by rw [h.len]; omega)]
  by_cases hx : x = a
  · subst hx
    rw [if_pos rfl, getD_set _ _ _ _ _ (by rw [h.row _ (by omega)]; omega)]
    by_cases hy : y = b
    · subst hy; rw [if_pos rfl, if_pos ⟨rfl, rfl⟩]
    · rw [if_neg (by omega), if_neg (fun e => hy e.2)]
  · rw [if_neg hx, if_neg (fun e => hx e.1)]
theorem shape_setP {n : Nat} {O : List (List Int)} (h : Shape n O) {a b : Nat} (hab : a ≤ b) (hb : b < n) (v : Int) : Shape n (setP O a b v) := by
  refine ⟨by unfold setP; rw [List.length_set]; exact h.len, fun i hi => ?_⟩
  unfold setP
  rw [getD_set _ _ _ _ _ (by rw [h.len]; omega)]
  by_cases e : i = a
  · subst e; rw [if_pos rfl, List.length_set]; exact h.row _ hi
  · rw [if_neg e]; exact h.row _ hi
def zeros (n : Nat) : List (List Int) := (List.range n).map (fun a => List.replicate (n - a) 0)
theorem zeros_row (n i : Nat) (hi : i < n) : (zeros n).getD i [] = List.replicate (n - i) 0 := by
  unfold zeros
  rw [List.getD_eq_getElem?_getD, List.getElem?_map, List.getElem?_range hi]; rfl
theorem shape_zeros (n : Nat) : Shape n (zeros n) := ⟨by simp [zeros], fun i hi => by rw [zeros_row n i hi, List.length_replicate]⟩
/-- no price out of range -/
def Low (n : Nat) (O : List (List Int)) : Prop := ∀ x y, x ≤ y → y < n → 0 ≤ price O x y ∧ price O x y ≤ 1000000
theorem low_zeros (n : Nat) : Low n (zeros n) := fun x y hxy hy => by
  unfold price
  rw [zeros_row n x (by omega), List.getD_eq_getElem?_getD, List.getElem?_replicate]
  split <;> simp
def stepM (m O : List (List Int)) (q : Nat × Nat) : List (List Int) := setP O q.1 q.2 (best m O q.1 q.2)
def mendL (m : List (List Int)) (pre : List (Nat × Nat)) : List (List Int) := pre.foldl (stepM m) (zeros m.length)
theorem mendL_snoc (m : List (List Int)) (pre : List (Nat × Nat)) (q : Nat × Nat) : mendL m (pre ++ [q]) = stepM m (mendL m pre) q := by unfold mendL; rw [List.foldl_append]; rfl
section
variable {m : List (List Int)} (hm : Ok m)
include hm
theorem best_bd {O : List (List Int)} (h : Low m.length O) (a b : Nat) (hab : a ≤ b) (hb : b < m.length) : 0 ≤ best m O a b ∧ best m O a b ≤ 1000000 := by
  have hp := price_ok hm hab hb
  have hc : 0 ≤ cheap m a b (rngN m.length) (price m a b) ∧ cheap m a b (rngN m.length) (price m a b) ≤ 1000000 := by
    have h1 := (cheap_le m a b (rngN m.length) (price m a b)).1
    refine ⟨?_, by omega⟩
    rcases cheap_is m a b (rngN m.length) (price m a b) with e | ⟨q, hq, _, _, e⟩
    · omega
    · have hq2 := (mem_rngN _ _).1 hq
      have := price_ok hm hq2.1 hq2.2
      omega
  unfold best
  have h2 := (parts_le O a b (cheap m a b (rngN m.length) (price m a b)) (b - a)).1
  refine ⟨?_, by omega⟩
  rcases parts_is O a b (cheap m a b (rngN m.length) (price m a b)) (b - a) with e | ⟨c, h3, h4, e⟩
  · omega
  · have := h a c h3 (by omega)
    have := h (c + 1) b (by omega) hb
    omega
theorem mendL_ok : ∀ (l : List (Nat × Nat)), (∀ q ∈ l, q.1 ≤ q.2 ∧ q.2 < m.length) → ∀ O, Shape m.length O → Low m.length O → Shape m.length (l.foldl (stepM m) O) ∧ Low m.length (l.foldl (stepM m) O)
  | [], _, O, h1, h2 => ⟨h1, h2⟩
  | q :: l, hl, O, h1, h2 => by
    have hq := hl q (by simp)
    refine mendL_ok l (fun q' h => hl q' (by simp [h])) _ (shape_setP h1 hq.1 hq.2 _) (fun x y hxy hy => ?_)
    show 0 ≤ price (setP O q.1 q.2 (best m O q.1 q.2)) x y ∧ price (setP O q.1 q.2 (best m O q.1 q.2)) x y ≤ 1000000
    rw [price_setP h1 hq.1 hq.2 _ x y hxy]
    split
    · exact best_bd hm h2 _ _ hq.1 hq.2
    · exact h2 x y hxy hy
theorem mendL_shape (pre : List (Nat × Nat)) (h : ∀ q ∈ pre, q.1 ≤ q.2 ∧ q.2 < m.length) : Shape m.length (mendL m pre) ∧ Low m.length (mendL m pre) := mendL_ok hm pre h _ (shape_zeros _) (low_zeros _)
omit hm in
/-- what is reckoned so far -/
def Done (m O : List (List Int)) (s a : Nat) : Prop := ∀ a' b', a' ≤ b' → b' < m.length → (b' < a' + s ∨ (b' = a' + s ∧ a' < a)) → price O a' b' = best m O a' b'
omit hm in
theorem done_step {O : List (List Int)} {s a : Nat} (hS : Shape m.length O) (h : Done m O s a) (hb : a + s < m.length) : Shape m.length (stepM m O (a, a + s)) ∧ Done m (stepM m O (a, a + s)) s (a + 1) := by
  have hp : ∀ x y, x ≤ y → price (stepM m O (a, a + s)) x y = if x = a ∧ y = a + s then best m O a (a + s) else price O x y := fun x y hxy => price_setP hS (by omega) hb _ x y hxy
  refine ⟨shape_setP hS (by simp) hb _, fun a' b' h1 h2 h3 => ?_⟩
  have hbest : best m (stepM m O (a, a + s)) a' b' = best m O a' b' := by
    unfold best
    refine parts_congr _ _ _ _ _ _ (fun c g1 g2 => ⟨?_, ?_⟩)
    · rw [hp a' c g1, if_neg (by omega)]
    · rw [hp (c + 1) b' (by omega), if_neg (by omega)]
  rw [hbest, hp a' b' h1]
  by_cases e : a' = a ∧ b' = a + s
  · rw [if_pos e, e.1, e.2]
  · rw [if_neg e]; exact h a' b' h1 h2 (by omega)
omit hm in
theorem done_row (s : Nat) : ∀ (k a : Nat) (O : List (List Int)), a + k + s = m.length ∨ k = 0 → Shape m.length O → Done m O s a → Shape m.length ((rowN s k a).foldl (stepM m) O) ∧ Done m ((rowN s k a).foldl (stepM m) O) s (a + k)
  | 0, a, O, _, hS, h => ⟨hS, h⟩
  | k + 1, a, O, hk, hS, h => by
    obtain ⟨h1, h2⟩ := done_step hS h (by omega)
    have := done_row s k (a + 1) (stepM m O (a, a + s)) (by omega) h1 h2
    rw [show a + (k + 1) = a + 1 + k by omega]
    exact this
omit hm in
theorem done_all : ∀ (k s : Nat) (O : List (List Int)), s + k = m.length → Shape m.length O → Done m O s 0 → Done m ((allN m.length k s).foldl (stepM m) O) m.length 0
  | 0, s, O, hk, hS, h => by rw [show m.length = s by omega]; exact h
  | k + 1, s, O, hk, hS, h => by
    obtain ⟨h1, h2⟩ := done_row s (m.length - s) 0 O (by omega) hS h
    unfold allN
    rw [List.foldl_append]
    refine done_all k (s + 1) _ (by omega) h1 (fun a' b' g1 g2 g3 => h2 a' b' g1 g2 (by omega))
omit hm in
theorem mendL_done (a b : Nat) (hab : a ≤ b) (hb : b < m.length) : price (mendL m (rngN m.length)) a b = best m (mendL m (rngN m.length)) a b :=
  done_all m.length 0 (zeros m.length) (by omega) (shape_zeros _) (fun a' b' h1 h2 h3 => by omega) a b hab hb (by omega)
/-- what the code reckons is the least sum -/
theorem mendL_least (a b : Nat) (hab : a ≤ b) (hb : b < m.length) : (∃ s, s ≤ price (mendL m (rngN m.length)) a b ∧ Ach m (b + 1) a s) ∧ ∀ s, Ach m (b + 1) a s → price (mendL m (rngN m.length)) a b ≤ s := by
  refine mend_least hm (price (mendL m (rngN m.length))) ?_ ?_ ?_ a b hab hb
  · intro a b x y h1 h2 h3 h4
    rw [mendL_done a b h2 (by omega)]
    have e1 := (parts_le (mendL m (rngN m.length)) a b (cheap m a b (rngN m.length) (price m a b)) (b - a)).1
    have e2 := (cheap_le m a b (rngN m.length) (price m a b)).2 (x, y) ((mem_rngN _ _).2 ⟨by simp; omega, h4⟩) h1 h3
    unfold best
    exact Int.le_trans e1 e2
  · intro a c b h1 h2 h3
    rw [mendL_done a b (by omega) h3]
    exact (parts_le (mendL m (rngN m.length)) a b (cheap m a b (rngN m.length) (price m a b)) (b - a)).2 c h1 (by omega)
  · intro a b h1 h2
    rw [mendL_done a b h1 h2]
    rcases parts_is (mendL m (rngN m.length)) a b (cheap m a b (rngN m.length) (price m a b)) (b - a) with e | ⟨c, g1, g2, e⟩
    · left
      rcases cheap_is m a b (rngN m.length) (price m a b) with e2 | ⟨q, hq, g1, g2, e2⟩
      · exact ⟨a, b, Nat.le_refl _, Nat.le_refl _, h2, by unfold best; rw [e, e2]⟩
      · exact ⟨q.1, q.2, g1, g2, ((mem_rngN _ _).1 hq).2, by unfold best; rw [e, e2]⟩
    · exact .inr ⟨c, g1, by omega, by unfold best; rw [e]⟩
end
end Fa
end Go.Proofs.Ytcppeligeodomaa
