/- Sets of days: spans and edges as element types; small functions. -/
import Derived.Test.YtcgncmlldjblmaaSpansPlain
import Derived.Test.YtcgncmlldjblmaaEl2
import Derived.Test.YtcgncmlldjblmaaBox
set_option linter.unusedSimpArgs false
set_option linter.unusedVariables false
namespace Go.Proofs.Ytcgncmlldjblmaa
open Go.RowKit
namespace Sn
def eS (s : Sp) : List Value := [.int .i64 s.1, .int .i64 s.2]
abbrev aS (s : Sp) : Value := .agg #[.int .i64 s.1, .int .i64 s.2]
@[reducible] def elS : El Sp where
  k := 2
  enc := eS
  te := 51
  ts := 22
  bytes := 16
  zero := .agg #[.int .i64 0, .int .i64 0]
  k0 := by decide
  zs := rfl
  len := fun _ => rfl
  one := fun x y h => by simp [eS] at h; rcases h with rfl | rfl <;> rfl
  info := by kernel_rfl
  und := Try.underlying22
def eE (e : Ed) : List Value := [.int .i64 e.at_, .int .i64 e.first, .int .i64 e.second]
abbrev aE (e : Ed) : Value := .agg #[.int .i64 e.at_, .int .i64 e.first, .int .i64 e.second]
@[reducible] def elE : El Ed where
  k := 3
  enc := eE
  te := 87
  ts := 74
  bytes := 24
  zero := .agg #[.int .i64 0, .int .i64 0, .int .i64 0]
  k0 := by decide
  zs := rfl
  len := fun _ => rfl
  one := fun x y h => by simp [eE] at h; rcases h with rfl | rfl | rfl <;> rfl
  info := by kernel_rfl
  und := Try.underlying74
theorem eS_at {w : World} {b off : Nat} {xs : List Sp} (h : ∀ (i : Nat) (h : i < xs.length) (j : Nat) (u : Value), (eS xs[i])[j]? = some u → w.cell? ⟨b, off + (i * 2 + j), none⟩ = some u)
    (i : Nat) (hi : i < xs.length) : w.cell? ⟨b, off + i * 2, none⟩ = some (.int .i64 xs[i].1) ∧ w.cell? ⟨b, off + i * 2 + 1, none⟩ = some (.int .i64 xs[i].2) := ⟨h i hi 0 _ rfl, h i hi 1 _ rfl⟩
theorem eE_at {w : World} {b off : Nat} {xs : List Ed} (h : ∀ (i : Nat) (h : i < xs.length) (j : Nat) (u : Value), (eE xs[i])[j]? = some u → w.cell? ⟨b, off + (i * 3 + j), none⟩ = some u)
    (i : Nat) (hi : i < xs.length) : w.cell? ⟨b, off + i * 3, none⟩ = some (.int .i64 xs[i].at_) ∧ w.cell? ⟨b, off + i * 3 + 1, none⟩ = some (.int .i64 xs[i].first) ∧ w.cell? ⟨b, off + i * 3 + 2, none⟩ = some (.int .i64 xs[i].second) := ⟨h i hi 0 _ rfl, h i hi 1 _ rfl, h i hi 2 _ rfl⟩
abbrev BoolQ (b : Bool) (w : World) (e : Ending) (w' : World) : Prop := e = .returned (.bool b) ∧ Below w.heap.size w w'
abbrev IntQ (n : Int) (w : World) (e : Ending) (w' : World) : Prop := e = .returned (.int .i64 n) ∧ Below w.heap.size w w'
/-- numbers that there are -/
def isN (s : Sp) : Prop := -1099511627776 ≤ s.1 ∧ -1099511627776 ≤ s.2 ∧ s.1 ≤ 1099511627776 ∧ s.2 ≤ 1099511627776
instance (s : Sp) : Decidable (isN s) := by unfold isN; exact inferInstance
set_option maxHeartbeats 1000000 in
theorem numbers_any (s : Sp) (w : World) : Calls Try.prog 53 #[aS s] w (BoolQ (decide (isN s)) w) := by
  obtain ⟨a, b⟩ := s
  have hb := (br w).alloc (Nat.le_refl _) (.cells #[.int .i64 a, .int .i64 b] 51)
  obtain ⟨m, hm⟩ : ∃ m, min a b = m := ⟨_, rfl⟩
  obtain ⟨x, hx⟩ : ∃ x, max a b = x := ⟨_, rfl⟩
  have hd : decide (isN (a, b)) = (decide (-1099511627776 ≤ m) && decide (x ≤ 1099511627776)) := by
    rw [← hm, ← hx, ← Bool.decide_and]
    apply decide_eq_decide.2
    show (_ ∧ _ ∧ _ ∧ _) ↔ _
    simp only
    omega
  rw [hd]
  clear hd
  have hc : (a < b ∧ m = a ∧ x = b) ∨ (b < a ∧ m = b ∧ x = a) ∨ (a = b ∧ m = a ∧ x = a) := by omega
  clear hm hx
  have go : ∀ (r : Bool), r = (decide (-1099511627776 ≤ m) && decide (x ≤ 1099511627776)) → ((-1099511627776 ≤ m ∧ x ≤ 1099511627776 ∧ r = true) ∨ (-1099511627776 ≤ m ∧ decide (x ≤ 1099511627776) = false ∧ r = false) ∨ (¬ -1099511627776 ≤ m ∧ r = false)) := fun r hr => by
    by_cases h1 : (-1099511627776 : Int) ≤ m <;> by_cases h2 : x ≤ (1099511627776 : Int) <;> simp [h1, h2] at hr <;> simp [h1, h2, hr]
  obtain ⟨r, hr⟩ : ∃ r, (decide (-1099511627776 ≤ m) && decide (x ≤ 1099511627776)) = r := ⟨_, rfl⟩
  have hcs := go r hr.symm
  rw [hr]
  clear go hr
  rcases hc with ⟨h, e1, e2⟩ | ⟨h, e1, e2⟩ | ⟨rfl, e1, e2⟩
  · subst e1 e2
    rcases hcs with ⟨g1, g2, rfl⟩ | ⟨g1, g2, rfl⟩ | ⟨g1, rfl⟩
    all_goals
      go_enter Try.func53, Try.ntmps53
      go_wp2
      go_ret
      exact ⟨rfl, hb⟩
  · subst e1 e2
    rcases hcs with ⟨g1, g2, rfl⟩ | ⟨g1, g2, rfl⟩ | ⟨g1, rfl⟩
    all_goals
      go_enter Try.func53, Try.ntmps53
      go_wp2
      go_ret
      exact ⟨rfl, hb⟩
  · subst e1 e2
    rcases hcs with ⟨g1, g2, rfl⟩ | ⟨g1, g2, rfl⟩ | ⟨g1, rfl⟩
    all_goals
      go_enter Try.func53, Try.ntmps53
      go_wp2
      go_ret
      exact ⟨rfl, hb⟩
end Sn
end Go.Proofs.Ytcgncmlldjblmaa
