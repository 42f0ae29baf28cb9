/- Ledgers: what reversing does, as plain facts. -/
import Derived.Test.YtcppeligeodomaaLedPlain2
set_option linter.unusedVariables false
namespace Go.Proofs.Ytcppeligeodomaa
namespace Ld
open Pn
theorem one_neg (a : Int) (ls : List Ln) : one a (neg ls) = - one a ls := by
  induction ls with
  | nil => rfl
  | cons x ls ih =>
    have e : neg (x :: ls) = (x.1, -x.2) :: neg ls := rfl
    rw [e]
    simp only [one, ih]
    split <;> omega
theorem neg_neg (ls : List Ln) : neg (neg ls) = ls := by
  unfold neg
  rw [List.map_map]
  conv => rhs; rw [← List.map_id ls]
  apply List.map_congr_left
  intro x _
  obtain ⟨a, b⟩ := x
  simp
theorem rev_err (l : List Pg) (id nw : Int) (h : (rev l id nw).2 ≠ 0) : (rev l id nw).1 = [] := by
  unfold rev at h ⊢
  by_cases h1 : chk l ≠ 0
  · rw [if_pos h1]
  · rw [if_neg h1] at h ⊢
    rcases hf : find id l with _ | q
    · rfl
    · rw [hf] at h
      exact post_err _ _ h
theorem rev_ok (l : List Pg) (id nw : Int) (h : (rev l id nw).2 = 0) : chk l = 0 ∧ ∃ q, find id l = some q ∧ rev l id nw = post l (nw, neg q.2) := by
  unfold rev at h ⊢
  by_cases h1 : chk l ≠ 0
  · rw [if_pos h1] at h; exact absurd h h1
  · rw [if_neg h1] at h ⊢
    refine ⟨Classical.byContradiction h1, ?_⟩
    rcases hf : find id l with _ | q
    · rw [hf] at h; simp at h
    · exact ⟨q, rfl, rfl⟩
theorem rev_bal (a : Int) (l : List Pg) (id nw : Int) (h : (rev l id nw).2 = 0) (q : Pg) (hq : find id l = some q) : chk (rev l id nw).1 = 0 ∧ (((rev l id nw).1.length = l.length ∧ (rev l id nw).1 = l) ∨ ((rev l id nw).1.length = l.length + 1 ∧ bal a (rev l id nw).1 = bal a l - one a q.2 ∧ (rev l id nw).1 = l ++ [(nw, neg q.2)] ∧ find nw l = none)) := by
  obtain ⟨_, q', hq', hr⟩ := rev_ok l id nw h
  rw [hq] at hq'
  injection hq' with e
  subst e
  rw [hr] at h ⊢
  refine ⟨chk_post _ _ h, ?_⟩
  rcases post_bal a _ _ h with h1 | ⟨h1, h2, h3, h4⟩
  · exact .inl h1
  · refine .inr ⟨h1, ?_, h3, h4⟩
    rw [h2, one_neg]; omega
theorem rev_twice (a : Int) (l : List Pg) (id nw o : Int) (h : (rev l id nw).2 = 0) (h2 : (rev (rev l id nw).1 nw o).2 = 0) (hl : (rev (rev l id nw).1 nw o).1.length = l.length + 2) : chk (rev (rev l id nw).1 nw o).1 = 0 ∧ bal a (rev (rev l id nw).1 nw o).1 = bal a l := by
  obtain ⟨_, q, hq, _⟩ := rev_ok l id nw h
  obtain ⟨_, h3⟩ := rev_bal a l id nw h q hq
  obtain ⟨_, r, hr, _⟩ := rev_ok _ _ _ h2
  obtain ⟨h4, h5⟩ := rev_bal a _ nw o h2 r hr
  refine ⟨h4, ?_⟩
  rcases h3 with ⟨e1, _⟩ | ⟨e1, e2, e3, e4⟩
  · rcases h5 with ⟨e5, _⟩ | ⟨e5, _⟩ <;> omega
  · rcases h5 with ⟨e5, _⟩ | ⟨e5, e6, _⟩
    · omega
    · have : r = (nw, neg q.2) := by
        have hh := find_app_new l (nw, neg q.2) e4
        rw [e3] at hr
        simp only at hh
        rw [hr] at hh
        injection hh
      rw [this] at e6
      rw [e6, e2, one_neg]
      omega
theorem uniq (l : List Pg) (h : chk l = 0) (i j : Nat) (hi : i < l.length) (hj : j < l.length) (he : l[i].1 = l[j].1) : i = j := by
  obtain ⟨_, _, h3⟩ := (chk_ok l).1 h
  rw [List.pairwise_iff_getElem] at h3
  rcases Nat.lt_trichotomy i j with h' | h' | h'
  · exact absurd he (h3 i j hi hj h')
  · exact h'
  · exact absurd he.symm (h3 j i hj hi h')
end Ld
end Go.Proofs.Ytcppeligeodomaa
