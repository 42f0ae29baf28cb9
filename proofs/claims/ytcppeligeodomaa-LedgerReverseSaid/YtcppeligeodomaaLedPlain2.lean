/- Ledgers: what posting does, as plain facts. -/
import Derived.Test.YtcppeligeodomaaLedPlain
set_option linter.unusedVariables false
namespace Go.Proofs.Ytcppeligeodomaa
namespace Ld
open Pn
theorem one_sum (ls : List Ln) (h : ∀ l ∈ ls, 1 ≤ l.1 ∧ l.1 ≤ 5) : one 1 ls + one 2 ls + one 3 ls + one 4 ls + one 5 ls = tot ls := by
  induction ls with
  | nil => rfl
  | cons x ls ih =>
    have h1 := ih (fun l hl => h l (by simp [hl]))
    have h2 := h x (by simp)
    simp only [one, tot]
    rcases (show x.1 = 1 ∨ x.1 = 2 ∨ x.1 = 3 ∨ x.1 = 4 ∨ x.1 = 5 by omega) with e | e | e | e | e <;> simp [e] <;> omega
theorem bal_sum (l : List Pg) (h : ∀ p ∈ l, Ok p) : bal 1 l + bal 2 l + bal 3 l + bal 4 l + bal 5 l = 0 := by
  induction l with
  | nil => rfl
  | cons x l ih =>
    have h1 := ih (fun p hp => h p (by simp [hp]))
    have h2 := h x (by simp)
    have h3 := one_sum x.2 (fun l hl => ⟨(h2.ln l hl).1, (h2.ln l hl).2.1⟩)
    have h4 := h2.sum
    simp only [bal]
    omega
theorem find_some {id : Int} {l : List Pg} {q : Pg} (h : find id l = some q) : q ∈ l ∧ q.1 = id := by
  unfold find at h
  exact ⟨List.mem_of_find?_eq_some h, by have := List.find?_some h; unfold isI at this; exact of_decide_eq_true this⟩
theorem find_none {id : Int} {l : List Pg} : find id l = none ↔ ∀ q ∈ l, q.1 ≠ id := by
  unfold find
  rw [List.find?_eq_none]
  unfold isI
  simp
theorem post_err (l : List Pg) (p : Pg) (h : (post l p).2 ≠ 0) : (post l p).1 = [] := by
  unfold post at h ⊢
  by_cases h1 : chk l ≠ 0
  · rw [if_pos h1]
  · rw [if_neg h1] at h ⊢
    by_cases h2 : pchk p ≠ 0
    · rw [if_pos h2]
    · rw [if_neg h2] at h ⊢
      rcases hf : find p.1 l with _ | q
      · rw [hf] at h
        simp only at h ⊢
        by_cases h3 : l.length = 100
        · rw [if_pos h3]
        · rw [if_neg h3] at h; exact absurd rfl h
      · rw [hf] at h
        simp only at h ⊢
        by_cases h3 : q.2 = p.2
        · rw [if_pos h3] at h; exact absurd rfl h
        · rw [if_neg h3]
theorem post_ok (l : List Pg) (p : Pg) (h : (post l p).2 = 0) : chk l = 0 ∧ Ok p ∧ ((∃ q, find p.1 l = some q ∧ q.2 = p.2 ∧ post l p = (l, 0)) ∨ (find p.1 l = none ∧ l.length < 100 ∧ post l p = (l ++ [p], 0))) := by
  unfold post at h ⊢
  by_cases h1 : chk l ≠ 0
  · rw [if_pos h1] at h; exact absurd h h1
  · rw [if_neg h1] at h ⊢
    have h1' : chk l = 0 := Classical.byContradiction h1
    by_cases h2 : pchk p ≠ 0
    · rw [if_pos h2] at h; exact absurd h h2
    · rw [if_neg h2] at h ⊢
      have h2' : pchk p = 0 := Classical.byContradiction h2
      refine ⟨h1', (pchk_ok p).1 h2', ?_⟩
      have hlen := ((chk_ok l).1 h1').1
      rcases hf : find p.1 l with _ | q
      · rw [hf] at h
        simp only at h ⊢
        right
        by_cases h3 : l.length = 100
        · rw [if_pos h3] at h; simp at h
        · exact ⟨by first | trivial | exact hf, by omega, by rw [if_neg h3]⟩
      · rw [hf] at h
        simp only at h ⊢
        left
        by_cases h3 : q.2 = p.2
        · exact ⟨q, by first | trivial | exact hf, h3, by rw [if_pos h3]⟩
        · rw [if_neg h3] at h; simp at h
theorem chk_app (l : List Pg) (p : Pg) (h : chk l = 0) (hp : Ok p) (hf : find p.1 l = none) (hl : l.length < 100) : chk (l ++ [p]) = 0 := by
  obtain ⟨h1, h2, h3⟩ := (chk_ok l).1 h
  refine (chk_ok _).2 ⟨by simp; omega, fun x hx => ?_, ?_⟩
  · rcases List.mem_append.1 hx with hx | hx
    · exact h2 x hx
    · have : x = p := by simpa using hx
      subst this; exact hp
  · rw [List.pairwise_append]
    refine ⟨h3, by simp, fun x hx y hy => ?_⟩
    have : y = p := by simpa using hy
    subst this
    exact find_none.1 hf x hx
theorem chk_post (l : List Pg) (p : Pg) (h : (post l p).2 = 0) : chk (post l p).1 = 0 := by
  obtain ⟨h1, h2, ⟨q, h3, h4, h5⟩ | ⟨h3, h4, h5⟩⟩ := post_ok l p h
  · rw [h5]; exact h1
  · rw [h5]; exact chk_app l p h1 h2 h3 h4
theorem post_there (l : List Pg) (p : Pg) (h : chk l = 0) (hp : Ok p) (q : Pg) (hf : find p.1 l = some q) (he : q.2 = p.2) : post l p = (l, 0) := by
  unfold post
  rw [if_neg (by rw [h]; simp), if_neg (by rw [(pchk_ok p).2 hp]; simp), hf]
  simp only [he, if_true]
theorem post_new' (l : List Pg) (p : Pg) (h : chk l = 0) (hp : Ok p) (hf : find p.1 l = none) (hl : l.length < 100) : post l p = (l ++ [p], 0) := by
  unfold post
  rw [if_neg (by rw [h]; simp), if_neg (by rw [(pchk_ok p).2 hp]; simp), hf]
  simp only
  rw [if_neg (by omega)]
theorem find_app_new (l : List Pg) (p : Pg) (hf : find p.1 l = none) : find p.1 (l ++ [p]) = some p := by
  unfold find at hf ⊢
  rw [List.find?_append, hf]
  simp [isI]
theorem post_again (l : List Pg) (p : Pg) (h : (post l p).2 = 0) : post (post l p).1 p = ((post l p).1, 0) := by
  have hc := chk_post l p h
  obtain ⟨h1, h2, ⟨q, h3, h4, h5⟩ | ⟨h3, h4, h5⟩⟩ := post_ok l p h
  · rw [h5]; exact h5
  · rw [h5] at hc ⊢
    exact post_there _ _ hc h2 p (find_app_new l p h3) rfl
theorem post_bal (a : Int) (l : List Pg) (p : Pg) (h : (post l p).2 = 0) : ((post l p).1.length = l.length ∧ (post l p).1 = l) ∨ ((post l p).1.length = l.length + 1 ∧ bal a (post l p).1 = bal a l + one a p.2 ∧ (post l p).1 = l ++ [p] ∧ find p.1 l = none) := by
  obtain ⟨h1, h2, ⟨q, h3, h4, h5⟩ | ⟨h3, h4, h5⟩⟩ := post_ok l p h
  · rw [h5]; exact .inl ⟨rfl, rfl⟩
  · rw [h5]
    refine .inr ⟨by simp, ?_, rfl, h3⟩
    rw [bal_app]; simp [bal]
theorem balance_ok (l : List Pg) (a : Int) (h : chk l = 0) : balance l a = if a < 1 ∨ 5 < a then (0, 7) else (bal a l, 0) := by
  unfold balance; rw [if_neg (by rw [h]; simp)]
theorem balance_err (l : List Pg) (a : Int) (h : (balance l a).2 ≠ 0) : (balance l a).1 = 0 := by
  unfold balance at h ⊢
  by_cases h1 : chk l ≠ 0
  · rw [if_pos h1]
  · rw [if_neg h1] at h ⊢
    by_cases h2 : a < 1 ∨ 5 < a
    · rw [if_pos h2]
    · rw [if_neg h2] at h; exact absurd rfl h
theorem balance_zero (l : List Pg) (a : Int) (h : (balance l a).2 = 0) : chk l = 0 ∧ 1 ≤ a ∧ a ≤ 5 ∧ (balance l a).1 = bal a l := by
  unfold balance at h ⊢
  by_cases h1 : chk l ≠ 0
  · rw [if_pos h1] at h; exact absurd h h1
  · rw [if_neg h1] at h ⊢
    by_cases h2 : a < 1 ∨ 5 < a
    · rw [if_pos h2] at h; simp at h
    · rw [if_neg h2]; exact ⟨Classical.byContradiction h1, by omega, by omega, rfl⟩
theorem bal_rev (a : Int) (l : List Pg) : bal a l.reverse = bal a l := by
  induction l with
  | nil => rfl
  | cons x l ih => rw [List.reverse_cons, bal_app, ih]; simp [bal]; omega
/-- from the end: each posting is a new one -/
theorem order_step (l : List Pg) (h : chk l = 0) (k : Nat) (hk : k < l.length) : post (l.drop (k + 1)).reverse l[k] = ((l.drop k).reverse, 0) := by
  obtain ⟨h1, h2, h3⟩ := (chk_ok l).1 h
  have hd : l.drop k = l[k] :: l.drop (k + 1) := List.drop_eq_getElem_cons hk
  have h3' : (l.drop k).Pairwise (fun x y => x.1 ≠ y.1) := h3.sublist (List.drop_sublist k l)
  rw [hd] at h3'
  obtain ⟨h4, h5⟩ := List.pairwise_cons.1 h3'
  have hc : chk (l.drop (k + 1)).reverse = 0 := by
    refine (chk_ok _).2 ⟨by simp; omega, fun p hp => h2 p (List.mem_of_mem_drop (List.mem_reverse.1 hp)), ?_⟩
    rw [List.pairwise_reverse]
    exact h5.imp (fun h e => h e.symm)
  rw [post_new' _ _ hc (h2 _ (List.getElem_mem hk)) ?_ (by simp; omega), hd, List.reverse_cons]
  rw [find_none]
  intro q hq he
  exact h4 q (List.mem_reverse.1 hq) he.symm
end Ld
end Go.Proofs.Ytcppeligeodomaa
