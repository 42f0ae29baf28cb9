/- Rings of keys: plain facts, no program in sight. -/
import Derived.Test.YtmeoeihfgmmgmaaTagPlain
set_option linter.unusedVariables false
namespace Go.Proofs.Ytmeoeihfgmmgmaa
namespace Rg
open Tg
/-- an epoch: its number, its key -/
abbrev Ep := Int × W64 × W64
def chkR : Int → List Ep → Int
  | _, [] => 0
  | last, x :: l => if x.1 < 1 ∨ 255 < x.1 then 3 else if x.1 ≤ last then 4 else chkR x.1 l
def chk (l : List Ep) : Int := if 8 < l.length then 2 else chkR 0 l
def lastNo (l : List Ep) : Int := match l.getLast? with | some x => x.1 | none => 0
/-- of the first k numbers, the last one; 0: none yet -/
def prevNo (l : List Ep) (k : Nat) : Int := match k with | 0 => 0 | k + 1 => (l.getD k (0, 0, 0)).1
theorem chkR_step (l : List Ep) (k : Nat) (h : k < l.length) : chkR (prevNo l k) (l.drop k) = if l[k].1 < 1 ∨ 255 < l[k].1 then 3 else if l[k].1 ≤ prevNo l k then 4 else chkR (prevNo l (k + 1)) (l.drop (k + 1)) := by
  rw [List.drop_eq_getElem_cons h]
  have e : prevNo l (k + 1) = l[k].1 := by unfold prevNo; simp [List.getD, h]
  rw [e]; rfl
theorem chkR_end (l : List Ep) (k : Nat) (h : l.length ≤ k) (last : Int) : chkR last (l.drop k) = 0 := by
  rw [List.drop_eq_nil_of_le h]; rfl
/-- a ring that is right: its numbers rise -/
theorem chkR_spec : ∀ (l : List Ep) (last : Int), chkR last l = 0 → (∀ x ∈ l, 1 ≤ x.1 ∧ x.1 ≤ 255 ∧ last < x.1) ∧ l.Pairwise (fun x y => x.1 < y.1)
  | [], _, _ => ⟨by simp, List.Pairwise.nil⟩
  | x :: l, last, h => by
    have h' : (if x.1 < 1 ∨ 255 < x.1 then 3 else if x.1 ≤ last then 4 else chkR x.1 l) = 0 := h
    by_cases h1 : x.1 < 1 ∨ 255 < x.1
    · rw [if_pos h1] at h'; simp at h'
    · rw [if_neg h1] at h'
      by_cases h2 : x.1 ≤ last
      · rw [if_pos h2] at h'; simp at h'
      · rw [if_neg h2] at h'
        obtain ⟨g1, g2⟩ := chkR_spec l x.1 h'
        refine ⟨fun y hy => ?_, List.Pairwise.cons (fun y hy => (g1 y hy).2.2) g2⟩
        rcases List.mem_cons.mp hy with rfl | hy
        · omega
        · have := g1 y hy; omega
theorem chkR_of : ∀ (l : List Ep) (last : Int), (∀ x ∈ l, 1 ≤ x.1 ∧ x.1 ≤ 255 ∧ last < x.1) → l.Pairwise (fun x y => x.1 < y.1) → chkR last l = 0
  | [], _, _, _ => rfl
  | x :: l, last, h, hp => by
    show (if x.1 < 1 ∨ 255 < x.1 then 3 else if x.1 ≤ last then 4 else chkR x.1 l) = 0
    have hx := h x (by simp)
    rw [if_neg (by omega), if_neg (by omega)]
    cases hp with
    | cons h1 h2 => exact chkR_of l x.1 (fun y hy => ⟨(h y (by simp [hy])).1, (h y (by simp [hy])).2.1, h1 y hy⟩) h2
/-- where an epoch stands; the length: nowhere -/
def atN (no : Int) : List Ep → Nat
  | [] => 0
  | x :: l => if x.1 = no then 0 else atN no l + 1
theorem atN_le (no : Int) : ∀ l : List Ep, atN no l ≤ l.length
  | [] => Nat.le_refl _
  | x :: l => by
    show (if x.1 = no then 0 else atN no l + 1) ≤ _
    by_cases h : x.1 = no
    · rw [if_pos h]; omega
    · rw [if_neg h]; have := atN_le no l; simp; omega
theorem atN_eq (no : Int) : ∀ (l : List Ep) (k : Nat), k ≤ l.length → (∀ j (hj : j < l.length), j < k → l[j].1 ≠ no) → (∀ h : k < l.length, l[k].1 = no) → atN no l = k
  | [], k, hk, _, _ => by have : k = 0 := by simpa using hk
                          subst this; rfl
  | x :: l, 0, _, _, h => by
    have h0 : x.1 = no := h (by simp)
    show (if x.1 = no then 0 else atN no l + 1) = 0
    rw [if_pos h0]
  | x :: l, k + 1, hk, ha, h => by
    have h0 : x.1 ≠ no := ha 0 (by simp) (by omega)
    show (if x.1 = no then 0 else atN no l + 1) = k + 1
    rw [if_neg h0, atN_eq no l k (by simpa using hk) (fun j hj hjk => ha (j + 1) (by simpa using hj) (by omega)) (fun h' => h (by simpa using h'))]
theorem atN_spec (no : Int) : ∀ (l : List Ep), (∀ j (hj : j < l.length), j < atN no l → l[j].1 ≠ no) ∧ (∀ h : atN no l < l.length, l[atN no l].1 = no)
  | [] => ⟨fun j hj => by simp at hj, fun h => by simp at h⟩
  | x :: l => by
    obtain ⟨g1, g2⟩ := atN_spec no l
    by_cases h : x.1 = no
    · have e : atN no (x :: l) = 0 := by show (if _ then _ else _) = _; rw [if_pos h]
      rw [e]
      refine ⟨fun j hj hj0 => by omega, fun _ => ?_⟩
      exact h
    · have e : atN no (x :: l) = atN no l + 1 := by show (if _ then _ else _) = _; rw [if_neg h]
      refine ⟨fun j hj hj0 => ?_, fun hh => ?_⟩
      · rw [e] at hj0
        cases j with
        | zero => exact h
        | succ j => exact g1 j (by simpa using hj) (by omega)
      · simp only [e] at hh ⊢
        exact g2 (by simpa using hh)
def addF (l : List Ep) (k : W64 × W64) : List Ep × Int := if chk l ≠ 0 then ([], chk l) else if l.length = 8 ∨ lastNo l = 255 then ([], 2) else (l ++ [(lastNo l + 1, k)], 0)
def dropF (l : List Ep) (no : Int) : List Ep × Int := if chk l ≠ 0 then ([], chk l) else if atN no l = l.length then ([], 5) else (l.eraseIdx (atN no l), 0)
/-- what is left, as the document takes it: all others -/
theorem drop_filter (no : Int) : ∀ (l : List Ep), l.Pairwise (fun x y => x.1 < y.1) → atN no l < l.length → l.eraseIdx (atN no l) = l.filter (fun x => x.1 ≠ no)
  | [], _, h => by simp at h
  | x :: l, hp, h => by
    cases hp with
    | cons h1 h2 =>
      by_cases hx : x.1 = no
      · have e : atN no (x :: l) = 0 := by show (if _ then _ else _) = _; rw [if_pos hx]
        rw [e, List.eraseIdx_cons_zero, List.filter_cons_of_neg (by simp [hx])]
        symm
        rw [List.filter_eq_self]
        intro y hy
        have := h1 y hy
        simp; omega
      · have e : atN no (x :: l) = atN no l + 1 := by show (if _ then _ else _) = _; rw [if_neg hx]
        rw [e] at h ⊢
        rw [List.eraseIdx_cons_succ, List.filter_cons_of_pos (by simp [hx]), drop_filter no l h2 (by simpa using h)]
end Rg
end Go.Proofs.Ytmeoeihfgmmgmaa
