/- Sums of amounts: package pence and the document's answer. -/
import Derived.Test.YtcppeligeodomaaPenceWalks
set_option linter.unusedVariables false
namespace Go.Proofs.Ytcppeligeodomaa
open Go.RowKit
namespace Pn
/-- the running sum, as the machine has it -/
def acc (l : List Int) : Int := l.foldl (fun n x => wrap64 (n + x)) 0
def sumF (l : List Int) : Int × Int := if ∀ x ∈ l, isA x then told (acc l) else (0, 3)
theorem take_snocA {α : Type} (l : List α) (k : Nat) (h : k < l.length) : l.take (k + 1) = l.take k ++ [l[k]] := by simp
theorem acc_snoc (l : List Int) (x : Int) : acc (l ++ [x]) = wrap64 (acc l + x) := by simp [acc]
theorem sumF_no (l : List Int) (k : Nat) (h : k < l.length) (hx : ¬ isA l[k]) : sumF l = (0, 3) := by
  unfold sumF; rw [if_neg]; intro g; exact hx (g _ (List.getElem_mem _))
theorem sumF_all (l : List Int) (h : ∀ x ∈ l.take l.length, isA x) : sumF l = told (acc l) := by
  rw [List.take_length] at h
  unfold sumF; rw [if_pos h]
theorem ok_snoc (l : List Int) (k : Nat) (h : k < l.length) (g : ∀ x ∈ l.take k, isA x) (hx : isA l[k]) : ∀ x ∈ l.take (k + 1), isA x := by
  rw [take_snocA l k h]; intro x hx'
  rcases List.mem_append.1 hx' with a | a
  · exact g x a
  · simp at a; rw [a]; exact hx
def SumQ (l : List Int) (w : World) (e : Ending) (w' : World) : Prop := e = .returned (.tuple #[.int .i64 (sumF l).1, .int .i64 (sumF l).2]) ∧ Below w.heap.size w w'
theorem nowrap (n : Int) (h : -9223372036854775808 ≤ n ∧ n ≤ 9223372036854775807) : wrap64 n = n := by
  unfold wrap64; omega
def sum0F (l : List Int) : Int × Int := if l.length ≤ 32 then sumF l else (0, 2)
def Sum0Q (l : List Int) (w : World) (e : Ending) (w' : World) : Prop := e = .returned (.tuple #[.int .i64 (sum0F l).1, .int .i64 (sum0F l).2]) ∧ Below w.heap.size w w'
theorem noAmount_any (p : Int) (b : Bool) (w : World) (h : decide (isA p) = b) : Calls Try.prog 56 #[.int .i64 p] w fun e w' => e = .returned (.bool (!b)) ∧ w = w' := by
  by_cases hp : isA p
  · obtain rfl : b = true := by rw [← h]; exact decide_eq_true hp
    obtain ⟨h1, h2⟩ := hp
    clear h
    go_enter Try.func56, Try.ntmps56
    go_wp2
    go_ret
    exact ⟨by first | rfl | (simp; done) | (simp; omega), rfl⟩
  · obtain rfl : b = false := by rw [← h]; exact decide_eq_false hp
    rcases (show p < -1099511627776 ∨ (-1099511627776 ≤ p ∧ 1099511627776 < p) by unfold isA at hp; omega) with h1 | ⟨h1, h2⟩
    · clear h hp
      go_enter Try.func56, Try.ntmps56
      go_wp2
      go_ret
      exact ⟨by first | rfl | (simp; done) | (simp; omega), rfl⟩
    · clear h hp
      go_enter Try.func56, Try.ntmps56
      go_wp2
      go_ret
      exact ⟨by first | rfl | (simp; done) | (simp; omega), rfl⟩
end Pn
end Go.Proofs.Ytcppeligeodomaa
