/- Spelling: plain law. -/
import Derived.Test.YtkanlfgomfibdaaDoorBitsPlain
import Derived.Lib.CaseT
import Derived.Lib.CaseU
set_option linter.unusedSimpArgs false
set_option linter.unusedVariables false
namespace Go.Proofs.YtkanlfgomfibdaaDoor
namespace Sl
open Bt
/-- the letters -/
def letters : List Nat := [48, 49, 50, 51, 52, 53, 54, 55, 56, 57, 65, 66, 67, 68, 69, 70, 71, 72, 74, 75, 77, 78, 80, 81, 82, 83, 84, 86, 87, 88, 89, 90]
def letter (n : Nat) : Nat := letters.getD n 0
/-- what a byte says: 32: nothing; 33: it is no letter -/
def num (c : Nat) : Nat :=
  let d := if 97 ≤ c ∧ c ≤ 122 then c - 32 else c
  if d = 45 then 32 else if d = 79 then 0 else if d = 73 ∨ d = 76 then 1 else
    match letters.findIdx? (· == d) with
    | some n => n
    | none => 33
theorem num_le : ∀ c < 256, num c ≤ 33 := by decide +kernel
theorem num_letter : ∀ n < 32, num (letter n) = n := by decide +kernel
theorem letter_lt : ∀ n < 32, letter n < 256 := by decide +kernel
def small (c : Nat) : Nat := if 65 ≤ c ∧ c ≤ 90 then c + 32 else c
theorem num_small : ∀ c < 256, num (small c) = num c := by decide +kernel
theorem small_lt : ∀ c < 256, small c < 256 := by decide +kernel
/-- the numbers of letters; none: one is no letter -/
def nums : List Nat → Option (List Nat)
  | [] => some []
  | c :: l => if num c = 33 then none else if num c = 32 then nums l else (nums l).map (num c :: ·)
theorem nums_app : ∀ (l l' : List Nat), nums (l ++ l') = (nums l).bind (fun a => (nums l').map (a ++ ·))
  | [], l' => by simp [nums]
  | c :: l, l' => by
    rw [List.cons_append, nums, nums, nums_app l l']
    by_cases h1 : num c = 33
    · rw [if_pos h1, if_pos h1]; rfl
    · rw [if_neg h1, if_neg h1]
      by_cases h2 : num c = 32
      · rw [if_pos h2, if_pos h2]
      · rw [if_neg h2, if_neg h2]
        cases nums l with
        | none => rfl
        | some a => simp; rfl
theorem nums_lt : ∀ {l : List Nat}, (∀ c ∈ l, c < 256) → ∀ {xs}, nums l = some xs → ∀ x ∈ xs, x < 32
  | [], _, xs, h, x, hx => by simp [nums] at h; subst h; cases hx
  | c :: l, hl, xs, h, x, hx => by
    rw [nums] at h
    have hc := num_le c (hl c (by simp))
    have ih := fun {ys} (hy : nums l = some ys) => nums_lt (fun c hc => hl c (by simp [hc])) hy
    split at h
    · cases h
    · split at h
      · exact ih h x hx
      · cases hn : nums l with
        | none => rw [hn] at h; cases h
        | some ys =>
          rw [hn] at h
          simp at h
          subst h
          rcases List.mem_cons.1 hx with rfl | hx
          · omega
          · exact ih hn x hx
theorem nums_len : ∀ {l xs : List Nat}, nums l = some xs → xs.length ≤ l.length
  | [], xs, h => by simp [nums] at h; subst h; simp
  | c :: l, xs, h => by
    rw [nums] at h
    split at h
    · cases h
    · split at h
      · have := nums_len h; simp; omega
      · cases hn : nums l with
        | none => rw [hn] at h; cases h
        | some ys =>
          rw [hn] at h
          simp at h
          subst h
          have := nums_len hn
          simp; omega
theorem nums_map_small : ∀ {l : List Nat}, (∀ c ∈ l, c < 256) → nums (l.map small) = nums l
  | [], _ => rfl
  | c :: l, h => by rw [List.map_cons, nums, nums, num_small c (h c (by simp)), nums_map_small (fun c hc => h c (by simp [hc]))]
theorem nums_letters : ∀ {xs : List Nat}, (∀ x ∈ xs, x < 32) → nums (xs.map letter) = some xs
  | [], _ => rfl
  | x :: xs, h => by
    have hx := h x (by simp)
    rw [List.map_cons, nums, num_letter x hx, if_neg (by omega), if_neg (by omega), nums_letters (fun y hy => h y (by simp [hy]))]
    rfl
/-- how many letters a text of n bytes has -/
def fit (n : Nat) : Nat := (8 * n + 4) / 5
/-- a text, spelled: the letters' numbers -/
def fives (bs : List Nat) : List Nat := grp (bitL 8 bs) 5 (fit bs.length)
def rawF (bs : List Nat) : List Nat := (fives bs).map letter
theorem fives_lt (bs : List Nat) : ∀ x ∈ fives bs, x < 32 := grp_lt (bitL_lt 8 bs) 5 _
theorem fives_len (bs : List Nat) : (fives bs).length = fit bs.length := grp_len _ _ _
theorem rawF_len (bs : List Nat) : (rawF bs).length = fit bs.length := by unfold rawF; rw [List.length_map, fives_len]
theorem rawF_lt (bs : List Nat) : ∀ c ∈ rawF bs, c < 256 := fun c hc => by
  obtain ⟨x, hx, rfl⟩ := List.mem_map.1 hc
  exact letter_lt x (fives_lt bs x hx)
/-- letters, read: the text, and the error -/
def readF (l : List Nat) : List Nat × Int :=
  match nums l with
  | none => ([], 1)
  | some xs =>
    if xs.length % 8 = 1 ∨ xs.length % 8 = 3 ∨ xs.length % 8 = 6 then ([], 1)
    else if 120 < 5 * xs.length / 8 then ([], 2)
    else if val (bitL 5 xs) (8 * (5 * xs.length / 8)) (5 * xs.length % 8) ≠ 0 then ([], 1)
    else (grp (bitL 5 xs) 8 (5 * xs.length / 8), 0)
theorem readF_no {l : List Nat} (h : (readF l).2 ≠ 0) : (readF l).1 = [] := by
  unfold readF at h ⊢
  cases hn : nums l with
  | none => rfl
  | some xs =>
    rw [hn] at h
    simp only at h ⊢
    split
    · rfl
    · split
      · rfl
      · split
        · rfl
        · rename_i h1 h2 h3; rw [if_neg h1, if_neg h2, if_neg h3] at h; exact absurd rfl h
theorem readF_yes {l : List Nat} (h : (readF l).2 = 0) : ∃ xs, nums l = some xs ∧ ¬ (xs.length % 8 = 1 ∨ xs.length % 8 = 3 ∨ xs.length % 8 = 6) ∧ 5 * xs.length / 8 ≤ 120 ∧ val (bitL 5 xs) (8 * (5 * xs.length / 8)) (5 * xs.length % 8) = 0 ∧ (readF l).1 = grp (bitL 5 xs) 8 (5 * xs.length / 8) := by
  unfold readF at h ⊢
  cases hn : nums l with
  | none => rw [hn] at h; exact absurd h (by decide)
  | some xs =>
    rw [hn] at h
    simp only at h ⊢
    split at h
    · exact absurd h (by decide)
    · split at h
      · exact absurd h (by decide)
      · split at h
        · exact absurd h (by decide)
        · rename_i h1 h2 h3
          exact ⟨xs, rfl, h1, by omega, by omega, by rw [if_neg h1, if_neg h2, if_neg h3]⟩
theorem readF_lt (l : List Nat) : ∀ x ∈ (readF l).1, x < 256 := fun x hx => by
  by_cases h : (readF l).2 = 0
  · obtain ⟨xs, _, _, _, _, e⟩ := readF_yes h
    rw [e] at hx
    exact grp_lt (bitL_lt 5 xs) 8 _ x hx
  · rw [readF_no h] at hx; cases hx
theorem readF_len (l : List Nat) : (readF l).1.length ≤ 120 := by
  by_cases h : (readF l).2 = 0
  · obtain ⟨xs, _, _, h2, _, e⟩ := readF_yes h
    rw [e, grp_len]; exact h2
  · rw [readF_no h]; simp
/-- what is spelled is read as it was -/
theorem back {bs : List Nat} (hb : ∀ b ∈ bs, b < 256) (hn : bs.length ≤ 120) : readF (rawF bs) = (bs, 0) := by
  have e : 5 * fit bs.length / 8 = bs.length := by unfold fit; omega
  have e2 : 8 * bs.length + 5 * fit bs.length % 8 = 5 * fit bs.length := by unfold fit; omega
  have hv : val (bitL 5 (fives bs)) (8 * bs.length) (5 * fit bs.length % 8) = 0 := val_zero fun i hi => by
    unfold fives
    rw [bitL_grp (bitL_lt 8 bs) (by omega) _ _ (by omega), bitL_out (by omega) _ _ (by omega)]
  unfold readF rawF
  rw [nums_letters (fives_lt bs)]
  simp only [fives_len]
  rw [if_neg (by unfold fit; omega), e, if_neg (by omega), if_neg (by rw [hv]; simp)]
  have hg : grp (bitL 5 (fives bs)) 8 bs.length = bs := grp_back (v := 8) (w := 5) (by omega) (by omega) hb (by unfold fit; omega)
  rw [hg]
/-- what is read has one fair spelling -/
theorem fair {l : List Nat} (h : (readF l).2 = 0) : readF (rawF (readF l).1) = readF l ∧ (rawF (readF l).1).length ≤ l.length := by
  have hb := back (readF_lt l) (readF_len l)
  refine ⟨by rw [hb, ← h], ?_⟩
  obtain ⟨xs, h1, _, _, _, e⟩ := readF_yes h
  rw [rawF_len, e, grp_len]
  have := nums_len h1
  unfold fit
  omega
/-- a hyphen anywhere says nothing -/
theorem loose (l l' : List Nat) : readF (l ++ 45 :: l') = readF (l ++ l') := by
  have h : nums (l ++ 45 :: l') = nums (l ++ l') := by
    rw [nums_app, nums_app, nums]
    rw [if_neg (show ¬ num 45 = 33 by decide), if_pos (show num 45 = 32 by decide)]
  unfold readF
  rw [h]
theorem readF_small {l : List Nat} (h : ∀ c ∈ l, c < 256) : readF (l.map small) = readF l := by
  unfold readF
  rw [nums_map_small h]
/-- the fair spelling, or none -/
def fairF (l : List Nat) : List Nat × Int := if (readF l).2 = 0 then (rawF (readF l).1, 0) else ([], (readF l).2)
end Sl
end Go.Proofs.YtkanlfgomfibdaaDoor
