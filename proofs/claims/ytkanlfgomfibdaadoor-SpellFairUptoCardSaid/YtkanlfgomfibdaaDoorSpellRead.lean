/- Spelling: letters are read. -/
import Derived.Test.YtkanlfgomfibdaaDoorSpellRaw
import Derived.Laws.BytesArg
set_option linter.unusedSimpArgs false
set_option linter.unusedVariables false
namespace Go.Proofs.YtkanlfgomfibdaaDoor
open Go.RowKit
namespace Sl
open Bt
theorem conv_rd {w : World} {v : Value} {xs : List UInt8} (h : RdE elB w v xs) : (convert 31 9 v).run Tryd.prog w = .ok (.string ⟨xs.toArray⟩) w := by
  obtain ⟨a, cap, rfl, _, _, h3⟩ := h
  by_cases hn : 0 < xs.length
  · obtain ⟨b, off, rfl, hb, hc⟩ := h3 hn
    exact run_convert_bytes_back (P := Tryd.prog) w 31 9 5 ⟨b, off, none⟩ cap xs Tryd.underlying31 Tryd.underlying5 Tryd.underlying9 (fun j hj => by
      have ha : (⟨b, off, none⟩ : Addr).add j = ⟨b, off + j, none⟩ := by unfold Addr.add; split <;> simp_all
      rw [ha]
      have := hc j hj 0 _ rfl
      simpa using this)
  · have e : xs = [] := List.eq_nil_of_length_eq_zero (by omega)
    subst e
    cases a with
    | none =>
      have := run_convert_bytes_nil (P := Tryd.prog) (w := w) (dst := 9) 31 5 Tryd.underlying31 Tryd.underlying5 0 cap
      first
        | exact this
        | exact this Tryd.underlying9
        | simpa using this
    | some a =>
      exact run_convert_bytes_back (P := Tryd.prog) w 31 9 5 a cap [] Tryd.underlying31 Tryd.underlying5 Tryd.underlying9 (fun j hj => by cases hj)
theorem nums_snoc (l : List Nat) (c : Nat) : nums (l ++ [c]) = if num c = 33 then none else if num c = 32 then nums l else (nums l).map (· ++ [num c]) := by
  rw [nums_app]
  have : nums [c] = if num c = 33 then none else if num c = 32 then some [] else some [num c] := by
    rw [nums]
    rfl
  rw [this]
  by_cases h1 : num c = 33
  · rw [if_pos h1, if_pos h1]; cases nums l <;> rfl
  · rw [if_neg h1, if_neg h1]
    by_cases h2 : num c = 32
    · rw [if_pos h2, if_pos h2]
      cases nums l with
      | none => rfl
      | some a => simp
    · rw [if_neg h2, if_neg h2]
      cases nums l <;> rfl
theorem nums_none {l : List Nat} (k : Nat) (h : nums (l.take k) = none) : nums l = none := by
  have := nums_app (l.take k) (l.drop k)
  rw [List.take_append_drop, h] at this
  exact this
theorem nums_take {l : List Nat} {k : Nat} (h : k < l.length) : nums (l.take (k + 1)) = if num l[k] = 33 then none else if num l[k] = 32 then nums (l.take k) else (nums (l.take k)).map (· ++ [num l[k]]) := by
  rw [List.take_succ_eq_append_getElem h, nums_snoc]
theorem readF_none {l : List Nat} (h : nums l = none) : readF l = ([], 1) := by unfold readF; rw [h]
theorem readF_some {l xs : List Nat} (h : nums l = some xs) : readF l = if xs.length % 8 = 1 ∨ xs.length % 8 = 3 ∨ xs.length % 8 = 6 then ([], 1) else if 120 < 5 * xs.length / 8 then ([], 2)
    else if val (bitL 5 xs) (8 * (5 * xs.length / 8)) (5 * xs.length % 8) ≠ 0 then ([], 1) else (grp (bitL 5 xs) 8 (5 * xs.length / 8), 0) := by unfold readF; rw [h]
theorem sB_nil : sB [] = ⟨#[]⟩ := rfl
abbrev RQ (r : List Nat × Int) (w : World) (e : Ending) (w' : World) : Prop := e = .returned (.tuple #[.string (sB r.1), .int .i64 r.2]) ∧ Below w.heap.size w w'
end Sl
end Go.Proofs.YtkanlfgomfibdaaDoor
