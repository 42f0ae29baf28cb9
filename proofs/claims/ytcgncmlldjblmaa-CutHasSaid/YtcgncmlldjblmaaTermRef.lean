/- The document's functions on terms. -/
import Derived.Test.YtcgncmlldjblmaaDateRef2w
import Derived.Test.YtcgncmlldjblmaaTermWalks2
set_option linter.unusedSimpArgs false
set_option linter.unusedVariables false
namespace Go.Proofs.Ytcgncmlldjblmaa
open Go.RowKit
namespace Dt
theorem checkR_any (u N : Int) (w : World) : Calls Try.prog 50 #[aT u N] w (IntQ (tchk u N) w) := by
  unfold aT
  rcases (show u < 1 ∨ (1 ≤ u ∧ 4 < u) ∨ ((1 ≤ u ∧ u ≤ 4) ∧ N < 1) ∨ ((1 ≤ u ∧ u ≤ 4) ∧ 1 ≤ N ∧ 120 < N) ∨ ((1 ≤ u ∧ u ≤ 4) ∧ 1 ≤ N ∧ N ≤ 120) by omega) with h | ⟨h1, h⟩ | ⟨⟨h1, h2⟩, h⟩ | ⟨⟨h1, h2⟩, h3, h⟩ | ⟨⟨h1, h2⟩, h3, h⟩
  · have e : tchk u N = 7 := by unfold tchk; rw [if_pos (by omega)]
    have E := Lib.hid e; clear e
    go_enter Try.func50, Try.ntmps50
    go_wp2
    go_ret
    exact ⟨by rw [E.out]; rfl, (br _).alloc (Nat.le_refl _) _⟩
  · have e : tchk u N = 7 := by unfold tchk; rw [if_pos (by omega)]
    have E := Lib.hid e; clear e
    go_enter Try.func50, Try.ntmps50
    go_wp2
    go_ret
    exact ⟨by rw [E.out]; rfl, (br _).alloc (Nat.le_refl _) _⟩
  · have e : tchk u N = 3 := by unfold tchk; rw [if_neg (by omega), if_pos (by omega)]
    have E := Lib.hid e; clear e
    go_enter Try.func50, Try.ntmps50
    go_wp2
    go_ret
    exact ⟨by rw [E.out]; rfl, (br _).alloc (Nat.le_refl _) _⟩
  · have e : tchk u N = 3 := by unfold tchk; rw [if_neg (by omega), if_pos (by omega)]
    have E := Lib.hid e; clear e
    go_enter Try.func50, Try.ntmps50
    go_wp2
    go_ret
    exact ⟨by rw [E.out]; rfl, (br _).alloc (Nat.le_refl _) _⟩
  · have e : tchk u N = 0 := by unfold tchk; rw [if_neg (by omega), if_neg (by omega)]
    have E := Lib.hid e; clear e
    go_enter Try.func50, Try.ntmps50
    go_wp2
    go_ret
    exact ⟨by rw [E.out]; rfl, (br _).alloc (Nat.le_refl _) _⟩
theorem noDay_any (n : Int) (w : World) : Calls Try.prog 32 #[.int .i64 n] w fun e w' => e = .returned (.bool (!isD n)) ∧ w = w' := by
  rcases (show n < 1 ∨ (1 ≤ n ∧ 3652059 < n) ∨ (1 ≤ n ∧ n ≤ 3652059) by omega) with h | ⟨h1, h⟩ | ⟨h1, h⟩
  · have H := Lib.hid (isD_no (.inl h))
    go_enter Try.func32, Try.ntmps32
    go_wp2
    go_ret
    exact ⟨by rw [H.out]; rfl, rfl⟩
  · have H := Lib.hid (isD_no (.inr h))
    go_enter Try.func32, Try.ntmps32
    go_wp2
    go_ret
    exact ⟨by rw [H.out]; first | rfl | (simp; done) | (simp; omega), rfl⟩
  · have H := Lib.hid (isD_yes h1 h)
    go_enter Try.func32, Try.ntmps32
    go_wp2
    go_ret
    exact ⟨by rw [H.out]; first | rfl | (simp; done) | (simp; omega), rfl⟩
/-- the day, or 0 -/
def dayR (u N s k : Int) : Int := if 3652059 < rawT u N s k then 0 else rawT u N s k
/-- months by months, as the document takes them -/
theorem dayR_lin (u N s k X : Int) (hX : N * k = X) (u12 : u = 1 ∨ u = 2) : dayR u N s k = if 3652059 < (if u = 2 then s + 7 * X else s + X) then 0 else (if u = 2 then s + 7 * X else s + X) := by
  unfold dayR rawT
  rw [hX]
  rcases u12 with rfl | rfl <;> simp
theorem dayR_mon (u N s k : Int) (Z : Int) (hZ : rawT u N s k = monthsF s Z) (s1 : 1 ≤ s) (s2 : s ≤ 3652059) (z0 : 0 ≤ Z) (y m : Int) (hm : 1 ≤ m ∧ m ≤ 12) (ht : 12 * y + (m - 1) = mo s + Z) :
    (9999 < y ∧ dayR u N s k = 0) ∨ (y ≤ 9999 ∧ dayR u N s k = raw y m (min (dm s) (len y m))) := by
  obtain ⟨a1, a2, a3, a4, a5⟩ := mo_spec s1 s2
  have e1 : (mo s + Z) / 12 = y := by omega
  have e2 : (mo s + Z) % 12 + 1 = m := by omega
  rcases months_cases s1 s2 z0 with ⟨h1, h2⟩ | ⟨h1, h2⟩
  · refine .inr ⟨by omega, ?_⟩
    unfold dayR; rw [hZ, if_neg (by omega)]
    unfold monthsF dayAt S L raw
    rw [if_neg (by omega), e1, e2]
  · refine .inl ⟨by omega, ?_⟩
    unfold dayR; rw [hZ, h2]; rfl
end Dt
end Go.Proofs.Ytcgncmlldjblmaa
