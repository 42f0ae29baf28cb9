/- The cheapest cover: plain facts on lists of offers (days, price). -/
import Derived.Test.YtogohocokmhjcaaBase
namespace Go.Proofs.Ytogohocokmhjcaa
namespace Cv

abbrev Offer := Int × Int
def okO (o : Offer) : Prop := 1 ≤ o.1 ∧ o.1 ≤ 400 ∧ 0 ≤ o.2 ∧ o.2 ≤ 1000000
instance (o : Offer) : Decidable (okO o) := by unfold okO; exact inferInstance
def check (l : List Offer) : Int := if l.length = 0 then 5 else if l.length > 8 then 2 else if ∀ o ∈ l, okO o then 0 else 3
def big : Int := 9223372036854775807
/-- the least of all offers, each with what was best for the days that it leaves -/
def least (l : List Offer) (f : Nat → Int) (d : Nat) : Int := l.foldl (fun m o => min m (o.2 + f (d - o.1.toNat))) big
/-- the best prices of days 0 to n -/
def tbl (l : List Offer) : Nat → List Int
  | 0 => [0]
  | n + 1 => tbl l n ++ [least l (fun k => (tbl l n).getD k 0) (n + 1)]
def best (l : List Offer) (d : Nat) : Int := (tbl l d).getD d 0

theorem tbl_length (l : List Offer) : ∀ n, (tbl l n).length = n + 1
  | 0 => rfl
  | n + 1 => by simp [tbl, tbl_length l n]
theorem tbl_get (l : List Offer) : ∀ n k, k ≤ n → (tbl l n).getD k 0 = best l k := by
  intro n
  induction n with
  | zero => intro k hk; obtain rfl : k = 0 := by omega
            rfl
  | succ n ih =>
    intro k hk
    by_cases h : k ≤ n
    · rw [← ih k h]
      simp only [tbl, List.getD_eq_getElem?_getD]
      rw [List.getElem?_append_left (by rw [tbl_length]; omega)]
    · obtain rfl : k = n + 1 := by omega
      rfl
theorem best_zero (l : List Offer) : best l 0 = 0 := rfl
theorem least_congr (l : List Offer) (f g : Nat → Int) (d : Nat) (h : ∀ o ∈ l, f (d - o.1.toNat) = g (d - o.1.toNat)) : least l f d = least l g d := by
  unfold least
  generalize big = m
  induction l generalizing m with
  | nil => rfl
  | cons o l ih =>
    simp only [List.foldl_cons]
    rw [h o (by simp)]
    exact ih (fun x hx => h x (by simp [hx])) _
theorem best_succ (l : List Offer) (h : ∀ o ∈ l, okO o) (n : Nat) : best l (n + 1) = least l (best l) (n + 1) := by
  have : best l (n + 1) = least l (fun k => (tbl l n).getD k 0) (n + 1) := by
    unfold best
    simp only [tbl, List.getD_eq_getElem?_getD]
    rw [List.getElem?_append_right (by rw [tbl_length]; omega)]
    simp [tbl_length]
  rw [this]
  refine least_congr l _ _ _ (fun o ho => tbl_get l n _ ?_)
  have := h o ho
  unfold okO at this; omega
theorem fold_le (l : List Offer) (f : Nat → Int) (d : Nat) (m : Int) : l.foldl (fun m o => min m (o.2 + f (d - o.1.toNat))) m ≤ m := by
  induction l generalizing m with
  | nil => exact Int.le_refl _
  | cons o l ih => exact Int.le_trans (ih _) (Int.min_le_left _ _)
theorem least_le (l : List Offer) (f : Nat → Int) (d : Nat) (o : Offer) (ho : o ∈ l) : least l f d ≤ o.2 + f (d - o.1.toNat) := by
  unfold least
  generalize big = m
  induction l generalizing m with
  | nil => cases ho
  | cons x l ih =>
    simp only [List.foldl_cons]
    rcases List.mem_cons.1 ho with rfl | ho
    · exact Int.le_trans (fold_le _ _ _ _) (Int.min_le_right _ _)
    · exact ih ho _
theorem least_mem (l : List Offer) (f : Nat → Int) (d : Nat) : least l f d = big ∨ ∃ o ∈ l, least l f d = o.2 + f (d - o.1.toNat) := by
  unfold least
  generalize big = m
  induction l generalizing m with
  | nil => exact .inl rfl
  | cons x l ih =>
    simp only [List.foldl_cons]
    rcases ih (min m (x.2 + f (d - x.1.toNat))) with h | ⟨o, ho, h⟩
    · rw [h]
      rcases (show min m (x.2 + f (d - x.1.toNat)) = m ∨ min m (x.2 + f (d - x.1.toNat)) = x.2 + f (d - x.1.toNat) by omega) with e | e
      · exact .inl e
      · exact .inr ⟨x, by simp, e⟩
    · exact .inr ⟨o, by simp [ho], h⟩
theorem least_lower (l : List Offer) (f : Nat → Int) (d : Nat) (b : Int) (hb : b ≤ big) (h : ∀ o ∈ l, b ≤ o.2 + f (d - o.1.toNat)) : b ≤ least l f d := by
  rcases least_mem l f d with e | ⟨o, ho, e⟩
  · rw [e]; exact hb
  · rw [e]; exact h o ho

structure Ok (l : List Offer) : Prop where
  ne : l ≠ []
  all : ∀ o ∈ l, okO o

theorem best_bd {l : List Offer} (h : Ok l) : ∀ n, 0 ≤ best l n ∧ best l n ≤ 1000000 * n := by
  intro n
  induction n using Nat.strongRecOn with
  | ind n ih =>
    cases n with
    | zero => simp [best_zero]
    | succ n =>
      rw [best_succ l h.all]
      obtain ⟨o, ho⟩ := List.exists_mem_of_ne_nil l h.ne
      have o1 := h.all o ho
      have := least_le l (best l) (n + 1) o ho
      have i1 := ih (n + 1 - o.1.toNat) (by unfold okO at o1; omega)
      refine ⟨least_lower l _ _ 0 (by decide) (fun x hx => ?_), ?_⟩
      · have x1 := h.all x hx
        have := ih (n + 1 - x.1.toNat) (by unfold okO at x1; omega)
        unfold okO at x1; omega
      · unfold okO at o1; omega
theorem best_le {l : List Offer} (h : Ok l) (n : Nat) (hn : 1 ≤ n) (o : Offer) (ho : o ∈ l) : best l n ≤ o.2 + best l (n - o.1.toNat) := by
  obtain ⟨m, rfl⟩ : ∃ m, n = m + 1 := ⟨n - 1, by omega⟩
  rw [best_succ l h.all]
  exact least_le l _ _ o ho
theorem best_mem {l : List Offer} (h : Ok l) (n : Nat) (hn : 1 ≤ n) (hb : n ≤ 1000000) : ∃ o ∈ l, best l n = o.2 + best l (n - o.1.toNat) := by
  obtain ⟨m, rfl⟩ : ∃ m, n = m + 1 := ⟨n - 1, by omega⟩
  rcases least_mem l (best l) (m + 1) with e | e
  · have := (best_bd h (m + 1)).2
    rw [best_succ l h.all, e] at this
    unfold big at this; omega
  · rw [best_succ l h.all]; exact e
theorem best_mono {l : List Offer} (h : Ok l) : ∀ n m : Nat, n ≤ m → m ≤ 1000000 → best l n ≤ best l m := by
  intro n
  induction n using Nat.strongRecOn with
  | ind n ih =>
    intro m hnm hm
    by_cases h0 : n = 0
    · subst h0; rw [best_zero]; exact (best_bd h m).1
    · obtain ⟨o, ho, e⟩ := best_mem h m (by omega) hm
      have o1 := h.all o ho
      have := best_le h n (by omega) o ho
      have := ih (n - o.1.toNat) (by unfold okO at o1; omega) (m - o.1.toNat) (by omega) (by omega)
      omega
/-- two parts cost together no less than all of it -/
theorem best_sub {l : List Offer} (h : Ok l) : ∀ a b : Nat, a + b ≤ 1000000 → best l (a + b) ≤ best l a + best l b := by
  intro a
  induction a using Nat.strongRecOn with
  | ind a ih =>
    intro b hab
    by_cases h0 : a = 0
    · subst h0; rw [best_zero]; simp
    · obtain ⟨o, ho, e⟩ := best_mem h a (by omega) (by omega)
      have o1 := h.all o ho
      have h1 := best_le h (a + b) (by omega) o ho
      have h2 := ih (a - o.1.toNat) (by unfold okO at o1; omega) b (by omega)
      have h3 := best_mono h (a + b - o.1.toNat) (a - o.1.toNat + b) (by omega) (by omega)
      omega
/-- with an offer more it costs no more -/
theorem best_more {l : List Offer} (h : Ok l) (o : Offer) (ho : okO o) : ∀ n : Nat, n ≤ 1000000 → best (l ++ [o]) n ≤ best l n := by
  have h' : Ok (l ++ [o]) := ⟨by simp, fun x hx => by rcases List.mem_append.1 hx with hx | hx; exact h.all x hx; simp at hx; rw [hx]; exact ho⟩
  intro n
  induction n using Nat.strongRecOn with
  | ind n ih =>
    intro hn
    by_cases h0 : n = 0
    · subst h0; exact Int.le_refl _
    · obtain ⟨x, hx, e⟩ := best_mem h n (by omega) hn
      have x1 := h.all x hx
      have h1 := best_le h' n (by omega) x (by simp [hx])
      have h2 := ih (n - x.1.toNat) (by unfold okO at x1; omega) (by omega)
      omega
/-- no choice that covers as many days is cheaper: one more offer, so many times -/
theorem best_times {l : List Offer} (h : Ok l) (o : Offer) (ho : o ∈ l) (k : Nat) : ∀ n : Nat, n ≤ 1000000 → best l n ≤ k * o.2 + best l (n - k * o.1.toNat) := by
  induction k with
  | zero => intro n _; simp
  | succ k ih =>
    intro n hn
    have o1 := h.all o ho
    by_cases h0 : n - k * o.1.toNat = 0
    · have := ih n hn
      rw [h0] at this
      have h1 := (best_bd h (n - (k + 1) * o.1.toNat)).1
      have h2 : ((k + 1 : Nat) : Int) * o.2 = k * o.2 + o.2 := by rw [Int.natCast_add, Int.add_mul]; simp
      rw [best_zero] at this
      unfold okO at o1; omega
    · have h1 := best_le h (n - k * o.1.toNat) (by omega) o ho
      have h2 := ih n hn
      have h3 : ((k + 1 : Nat) : Int) * o.2 = k * o.2 + o.2 := by rw [Int.natCast_add, Int.add_mul]; simp
      have h4 : n - k * o.1.toNat - o.1.toNat = n - (k + 1) * o.1.toNat := by rw [Nat.add_mul]; omega
      rw [h4] at h1; omega

/-! ### the document's table: offer by offer -/
/-- the least price of so many days of the first offers; the last one as often as one likes -/
theorem best_snoc {l : List Offer} (h : Ok l) (o : Offer) (ho : okO o) : ∀ n : Nat, 1 ≤ n → n ≤ 1000000 → best (l ++ [o]) n = min (best l n) (o.2 + best (l ++ [o]) (n - o.1.toNat)) := by
  have h' : Ok (l ++ [o]) := ⟨by simp, fun x hx => by rcases List.mem_append.1 hx with hx | hx; exact h.all x hx; simp at hx; rw [hx]; exact ho⟩
  intro n
  induction n using Nat.strongRecOn with
  | ind n ih =>
    intro h1 hn
    have a := best_more h o ho n hn
    have b := best_le h' n h1 o (by simp)
    obtain ⟨x, hx, e⟩ := best_mem h' n h1 hn
    rcases List.mem_append.1 hx with hx | hx
    · have x1 := h.all x hx
      have c := best_le h n h1 x hx
      by_cases h0 : n - x.1.toNat = 0
      · rw [h0, best_zero] at e c; omega
      · have i := ih (n - x.1.toNat) (by unfold okO at x1; omega) (by omega) (by omega)
        have d : best (l ++ [o]) (n - o.1.toNat) ≤ x.2 + best (l ++ [o]) (n - x.1.toNat - o.1.toNat) := by
          by_cases h2 : n - o.1.toNat = 0
          · rw [h2, best_zero]
            have := (best_bd h' (n - x.1.toNat - o.1.toNat)).1
            unfold okO at x1; omega
          · have := best_le h' (n - o.1.toNat) (by omega) x (by simp [hx])
            rw [show n - o.1.toNat - x.1.toNat = n - x.1.toNat - o.1.toNat by omega] at this
            exact this
        omega
    · simp at hx; subst hx; omega
theorem best_one (o : Offer) (ho : okO o) : ∀ n : Nat, 1 ≤ n → n ≤ 1000000 → best [o] n = o.2 + best [o] (n - o.1.toNat) := by
  have h : Ok [o] := ⟨by simp, fun x hx => by simp at hx; rw [hx]; exact ho⟩
  intro n h1 hn
  obtain ⟨x, hx, e⟩ := best_mem h n h1 hn
  simp at hx; subst hx; exact e
end Cv
end Go.Proofs.Ytogohocokmhjcaa
