/- Fares: what the document says of them, as plain functions. -/
import Derived.Test.YtcppeligeodomaaPencePlain
set_option linter.unusedVariables false
namespace Go.Proofs.Ytcppeligeodomaa
namespace Fa
def okP (p : Int) : Bool := decide (0 ≤ p) && decide (p ≤ 1000000)
theorem okP_iff (p : Int) : okP p = true ↔ 0 ≤ p ∧ p ≤ 1000000 := by simp [okP]
def rowsChk : List (List Int) → Int
  | [] => 0
  | r :: rs => if r.length ≠ rs.length + 1 then 1 else if r.all okP = true then rowsChk rs else 3
def chkF (m : List (List Int)) : Int := if m.length = 0 then 5 else if 6 < m.length then 2 else rowsChk m
/-- fares that are right -/
structure Ok (m : List (List Int)) : Prop where
  pos : 1 ≤ m.length
  six : m.length ≤ 6
  row : ∀ (a : Nat) (h : a < m.length), m[a].length = m.length - a
  ok : ∀ r ∈ m, ∀ p ∈ r, 0 ≤ p ∧ p ≤ 1000000
theorem rowsChk_ok : ∀ m : List (List Int), rowsChk m = 0 ↔ (∀ (a : Nat) (h : a < m.length), m[a].length = m.length - a) ∧ ∀ r ∈ m, ∀ p ∈ r, 0 ≤ p ∧ p ≤ 1000000
  | [] => by simp [rowsChk]
  | r :: rs => by
    unfold rowsChk
    have ih := rowsChk_ok rs
    by_cases h1 : r.length ≠ rs.length + 1
    · rw [if_pos h1]
      constructor
      · intro h; omega
      · intro h; have := h.1 0 (by simp); simp at this; exact absurd this h1
    rw [if_neg h1]
    have h1' : r.length = rs.length + 1 := Classical.byContradiction h1
    by_cases h2 : r.all okP = true
    · rw [if_pos h2, ih]
      rw [List.all_eq_true] at h2
      constructor
      · rintro ⟨g1, g2⟩
        refine ⟨fun a ha => ?_, fun x hx p hp => ?_⟩
        · cases a with
          | zero => simpa using h1'
          | succ a => have := g1 a (by simpa using ha); simpa using this
        · rcases List.mem_cons.1 hx with rfl | hx
          · exact (okP_iff p).1 (h2 p hp)
          · exact g2 x hx p hp
      · rintro ⟨g1, g2⟩
        refine ⟨fun a ha => ?_, fun x hx => g2 x (by simp [hx])⟩
        have := g1 (a + 1) (by simpa using ha)
        simpa using this
    · rw [if_neg h2]
      constructor
      · intro h; omega
      · rintro ⟨_, g2⟩
        refine absurd ?_ h2
        rw [List.all_eq_true]
        exact fun p hp => (okP_iff p).2 (g2 r (by simp) p hp)
theorem chkF_ok (m : List (List Int)) : chkF m = 0 ↔ Ok m := by
  unfold chkF
  by_cases h1 : m.length = 0
  · rw [if_pos h1]
    constructor
    · intro h; omega
    · intro h; have := h.pos; omega
  rw [if_neg h1]
  by_cases h2 : 6 < m.length
  · rw [if_pos h2]
    constructor
    · intro h; omega
    · intro h; have := h.six; omega
  rw [if_neg h2, rowsChk_ok]
  constructor
  · rintro ⟨g1, g2⟩; exact ⟨by omega, by omega, g1, g2⟩
  · rintro ⟨_, _, g1, g2⟩; exact ⟨g1, g2⟩
/-- the price of zones a to b -/
def price (m : List (List Int)) (a b : Nat) : Int := (m.getD a []).getD (b - a) 0
theorem price_ok {m : List (List Int)} (h : Ok m) {a b : Nat} (hab : a ≤ b) (hb : b < m.length) : 0 ≤ price m a b ∧ price m a b ≤ 1000000 := by
  have ha : a < m.length := by omega
  have hl := h.row a ha
  have hi : b - a < m[a].length := by omega
  have e : price m a b = m[a][b - a] := by
    unfold price
    rw [show m.getD a [] = m[a] by rw [List.getD_eq_getElem?_getD, List.getElem?_eq_getElem ha]; rfl, List.getD_eq_getElem?_getD, List.getElem?_eq_getElem hi]; rfl
  rw [e]
  exact h.ok _ (List.getElem_mem ha) _ (List.getElem_mem hi)
theorem price_at {m : List (List Int)} (h : Ok m) {a b : Nat} (hab : a ≤ b) (hb : b < m.length) : ∃ (ha : a < m.length) (hi : b - a < m[a].length), price m a b = m[a][b - a] := by
  have ha : a < m.length := by omega
  have hl := h.row a ha
  have hi : b - a < m[a].length := by omega
  refine ⟨ha, hi, ?_⟩
  unfold price
  rw [show m.getD a [] = m[a] by rw [List.getD_eq_getElem?_getD, List.getElem?_eq_getElem ha]; rfl, List.getD_eq_getElem?_getD, List.getElem?_eq_getElem hi]; rfl
end Fa
end Go.Proofs.Ytcppeligeodomaa
