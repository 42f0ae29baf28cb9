/- Ledgers: what the document says of them, as plain functions. -/
import Derived.Test.YtcppeligeodomaaPencePlain
import Derived.Test.YtcppeligeodomaaFindPlain
set_option linter.unusedVariables false
namespace Go.Proofs.Ytcppeligeodomaa
namespace Ld
open Pn
abbrev Ln := Int × Int
abbrev Pg := Int × List Ln
def tot : List Ln → Int
  | [] => 0
  | l :: r => l.2 + tot r
theorem tot_app (a b : List Ln) : tot (a ++ b) = tot a + tot b := by
  induction a with
  | nil => simp [tot]
  | cons x a ih => simp only [List.cons_append, tot, ih]; omega
def has (a : Int) (l : List Ln) : Bool := l.any (fun x => decide (x.1 = a))
theorem has_app (a : Int) (l : List Ln) (x : Ln) : has a (l ++ [x]) = (has a l || decide (x.1 = a)) := by simp [has]
/-- the lines from somewhere on: those ahead of them are done -/
def lchk (done : List Ln) : List Ln → Int
  | [] => if tot done = 0 then 0 else 4
  | l :: r => if l.1 < 1 ∨ 5 < l.1 then 7 else if ¬ isA l.2 ∨ l.2 = 0 then 3 else if has l.1 done = true then 6 else lchk (done ++ [l]) r
def pchk (p : Pg) : Int := if p.1 < 1 then 3 else if p.2.length < 2 then 1 else if 6 < p.2.length then 2 else lchk [] p.2
def hasI (id : Int) (l : List Pg) : Bool := l.any (fun p => decide (p.1 = id))
theorem hasI_app (a : Int) (l : List Pg) (x : Pg) : hasI a (l ++ [x]) = (hasI a l || decide (x.1 = a)) := by simp [hasI]
def gchk (done : List Pg) : List Pg → Int
  | [] => 0
  | p :: r => if pchk p ≠ 0 then pchk p else if hasI p.1 done = true then 6 else gchk (done ++ [p]) r
def chk (l : List Pg) : Int := if 100 < l.length then 2 else gchk [] l
def isI (id : Int) (p : Pg) : Bool := decide (p.1 = id)
abbrev atI (id : Int) (l : List Pg) : Int := findI (isI id) l
def find (id : Int) (l : List Pg) : Option Pg := l.find? (isI id)
def post (l : List Pg) (p : Pg) : List Pg × Int :=
  if chk l ≠ 0 then ([], chk l) else if pchk p ≠ 0 then ([], pchk p) else
  match find p.1 l with
  | some q => if q.2 = p.2 then (l, 0) else ([], 6)
  | none => if l.length = 100 then ([], 2) else (l ++ [p], 0)
def one (a : Int) : List Ln → Int
  | [] => 0
  | l :: r => (if l.1 = a then l.2 else 0) + one a r
theorem one_app (a : Int) (l m : List Ln) : one a (l ++ m) = one a l + one a m := by
  induction l with
  | nil => simp [one]
  | cons x l ih => simp only [List.cons_append, one, ih]; omega
def bal (a : Int) : List Pg → Int
  | [] => 0
  | p :: r => one a p.2 + bal a r
theorem bal_app (a : Int) (l m : List Pg) : bal a (l ++ m) = bal a l + bal a m := by
  induction l with
  | nil => simp [bal]
  | cons x l ih => simp only [List.cons_append, bal, ih]; omega
def balance (l : List Pg) (a : Int) : Int × Int := if chk l ≠ 0 then (0, chk l) else if a < 1 ∨ 5 < a then (0, 7) else (bal a l, 0)
def neg (l : List Ln) : List Ln := l.map (fun x => (x.1, -x.2))
def rev (l : List Pg) (id as : Int) : List Pg × Int :=
  if chk l ≠ 0 then ([], chk l) else
  match find id l with
  | some q => post l (as, neg q.2)
  | none => ([], 5)
/-- what is right -/
structure Ok (p : Pg) : Prop where
  id : 1 ≤ p.1
  two : 2 ≤ p.2.length
  six : p.2.length ≤ 6
  ln : ∀ l ∈ p.2, 1 ≤ l.1 ∧ l.1 ≤ 5 ∧ isA l.2 ∧ l.2 ≠ 0
  apart : p.2.Pairwise (fun x y => x.1 ≠ y.1)
  sum : tot p.2 = 0
theorem has_iff (a : Int) (l : List Ln) : has a l = true ↔ ∃ x ∈ l, x.1 = a := by simp [has]
theorem lchk_ok : ∀ (r done : List Ln), lchk done r = 0 ↔ (∀ l ∈ r, 1 ≤ l.1 ∧ l.1 ≤ 5 ∧ isA l.2 ∧ l.2 ≠ 0) ∧ r.Pairwise (fun x y => x.1 ≠ y.1) ∧ (∀ x ∈ done, ∀ y ∈ r, x.1 ≠ y.1) ∧ tot (done ++ r) = 0
  | [], done => by
    unfold lchk
    by_cases h : tot done = 0
    · simp [h]
    · simp [h]
  | l :: r, done => by
    unfold lchk
    by_cases h1 : l.1 < 1 ∨ 5 < l.1
    · rw [if_pos h1]
      constructor
      · intro h; omega
      · intro h; have := h.1 l (by simp); omega
    rw [if_neg h1]
    by_cases h2 : ¬ isA l.2 ∨ l.2 = 0
    · rw [if_pos h2]
      constructor
      · intro h; omega
      · intro h; obtain ⟨_, _, h3, h4⟩ := h.1 l (by simp); rcases h2 with h2 | h2
        · exact absurd h3 h2
        · exact absurd h2 h4
    rw [if_neg h2]
    by_cases h3 : has l.1 done = true
    · rw [if_pos h3]
      constructor
      · intro h; omega
      · intro h; obtain ⟨x, hx, he⟩ := (has_iff _ _).1 h3; exact absurd he (h.2.2.1 x hx l (by simp))
    rw [if_neg h3, lchk_ok r (done ++ [l])]
    have e : done ++ [l] ++ r = done ++ l :: r := by simp
    rw [e]
    have hno : ∀ x ∈ done, x.1 ≠ l.1 := fun x hx he => h3 ((has_iff _ _).2 ⟨x, hx, he⟩)
    have hl : 1 ≤ l.1 ∧ l.1 ≤ 5 ∧ isA l.2 ∧ l.2 ≠ 0 := ⟨by omega, by omega, Classical.byContradiction (fun h => h2 (.inl h)), fun h => h2 (.inr h)⟩
    constructor
    · rintro ⟨g1, g2, g3, g4⟩
      refine ⟨fun x hx => ?_, ?_, fun x hx y hy => ?_, g4⟩
      · rcases List.mem_cons.1 hx with rfl | hx
        · exact hl
        · exact g1 x hx
      · exact List.Pairwise.cons (fun y hy => g3 l (by simp) y hy) g2
      · rcases List.mem_cons.1 hy with rfl | hy
        · exact hno x hx
        · exact g3 x (by simp [hx]) y hy
    · rintro ⟨g1, g2, g3, g4⟩
      refine ⟨fun x hx => g1 x (by simp [hx]), (List.pairwise_cons.1 g2).2, fun x hx y hy => ?_, g4⟩
      rcases List.mem_append.1 hx with hx | hx
      · exact g3 x hx y (by simp [hy])
      · have : x = l := by simpa using hx
        subst this
        exact (List.pairwise_cons.1 g2).1 y hy
theorem pchk_ok (p : Pg) : pchk p = 0 ↔ Ok p := by
  unfold pchk
  constructor
  · intro h
    by_cases h1 : p.1 < 1
    · rw [if_pos h1] at h; omega
    rw [if_neg h1] at h
    by_cases h2 : p.2.length < 2
    · rw [if_pos h2] at h; omega
    rw [if_neg h2] at h
    by_cases h3 : 6 < p.2.length
    · rw [if_pos h3] at h; omega
    rw [if_neg h3] at h
    obtain ⟨g1, g2, g3, g4⟩ := (lchk_ok _ _).1 h
    exact ⟨by omega, by omega, by omega, g1, g2, by simpa using g4⟩
  · rintro ⟨h1, h2, h3, h4, h5, h6⟩
    rw [if_neg (by omega), if_neg (by omega), if_neg (by omega)]
    exact (lchk_ok _ _).2 ⟨h4, h5, by simp, by simpa using h6⟩
theorem hasI_iff (a : Int) (l : List Pg) : hasI a l = true ↔ ∃ x ∈ l, x.1 = a := by simp [hasI]
theorem gchk_ok : ∀ (r done : List Pg), gchk done r = 0 ↔ (∀ p ∈ r, Ok p) ∧ r.Pairwise (fun x y => x.1 ≠ y.1) ∧ (∀ x ∈ done, ∀ y ∈ r, x.1 ≠ y.1)
  | [], done => by simp [gchk]
  | p :: r, done => by
    unfold gchk
    by_cases h1 : pchk p ≠ 0
    · rw [if_pos h1]
      constructor
      · intro h; exact absurd h h1
      · intro h; exact absurd ((pchk_ok p).2 (h.1 p (by simp))) h1
    rw [if_neg h1]
    by_cases h3 : hasI p.1 done = true
    · rw [if_pos h3]
      constructor
      · intro h; omega
      · intro h; obtain ⟨x, hx, he⟩ := (hasI_iff _ _).1 h3; exact absurd he (h.2.2 x hx p (by simp))
    rw [if_neg h3, gchk_ok r (done ++ [p])]
    have hno : ∀ x ∈ done, x.1 ≠ p.1 := fun x hx he => h3 ((hasI_iff _ _).2 ⟨x, hx, he⟩)
    have hp : Ok p := (pchk_ok p).1 (Classical.byContradiction h1)
    constructor
    · rintro ⟨g1, g2, g3⟩
      refine ⟨fun x hx => ?_, ?_, fun x hx y hy => ?_⟩
      · rcases List.mem_cons.1 hx with rfl | hx
        · exact hp
        · exact g1 x hx
      · exact List.Pairwise.cons (fun y hy => g3 p (by simp) y hy) g2
      · rcases List.mem_cons.1 hy with rfl | hy
        · exact hno x hx
        · exact g3 x (by simp [hx]) y hy
    · rintro ⟨g1, g2, g3⟩
      refine ⟨fun x hx => g1 x (by simp [hx]), (List.pairwise_cons.1 g2).2, fun x hx y hy => ?_⟩
      rcases List.mem_append.1 hx with hx | hx
      · exact g3 x hx y (by simp [hy])
      · have : x = p := by simpa using hx
        subst this
        exact (List.pairwise_cons.1 g2).1 y hy
theorem chk_ok (l : List Pg) : chk l = 0 ↔ l.length ≤ 100 ∧ (∀ p ∈ l, Ok p) ∧ l.Pairwise (fun x y => x.1 ≠ y.1) := by
  unfold chk
  by_cases h : 100 < l.length
  · rw [if_pos h]
    constructor
    · intro h'; omega
    · intro h'; omega
  · rw [if_neg h, gchk_ok]
    constructor
    · rintro ⟨h1, h2, _⟩; exact ⟨by omega, h1, h2⟩
    · rintro ⟨_, h1, h2⟩; exact ⟨h1, h2, by simp⟩
end Ld
end Go.Proofs.Ytcppeligeodomaa
