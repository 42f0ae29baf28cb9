/- Fares: Fair and Mend, errors too. -/
import Derived.Test.YtcppeligeodomaaFareMend
set_option linter.unusedVariables false
namespace Go.Proofs.Ytcppeligeodomaa
open Go.RowKit
namespace Fa
set_option maxHeartbeats 4000000 in
theorem fairC_any (r : Bool) (v : Value) (rs : List Rw) (w : World) (h : RdF w v rs) (hr : r = true ↔ chkF (mat rs) = 0 ∧ Fair (mat rs)) : Calls Try.prog 14 #[v] w fun e w' => e = .returned (.tuple #[.bool r, .int .i64 (chkF (mat rs))]) ∧ Below w.heap.size w w' := by
  have hml : (mat rs).length = rs.length := List.length_map _
  have C1 := Lib.hid (check_any v rs w h)
  by_cases c1 : chkF (mat rs) ≠ 0
  · have hrf : r = false := by
      cases hrr : r with
      | false => rfl
      | true => exact absurd (hr.1 hrr).1 c1
    subst hrf
    have hn : (chkF (mat rs) != 0) = true := by simpa using c1
    clear c1 hr h hml
    generalize chkF (mat rs) = ec at *
    go_enter Try.func14, Try.ntmps14
    go_wp2_with fail
    refine C1.out.mono ?_
    rintro en w1 ⟨rfl, hb1⟩
    go_wp2
    go_ret2
    exact ⟨rfl, hb1⟩
  have c1' : chkF (mat rs) = 0 := Classical.byContradiction c1
  have hok := (chkF_ok _).1 c1'
  have hr2 : r = true ↔ ∀ x : Rg rs.length, Step (mat rs) x.1.1 x.1.2 := by
    rw [hr, fair_step, hml]
    exact ⟨fun g x => g.2 x.1.1 x.1.2 x.2.1 x.2.2, fun g => ⟨c1', fun a b hab hb => g ⟨(a, b), hab, hb⟩⟩⟩
  have C2 := Lib.hid (fun w' (hb : Below w.heap.size w w') => callsIn_wide.1 (fair_in r v rs w' (h.next hb) hok hr2))
  rw [c1'] at C1 ⊢
  clear c1 c1' hr hr2 h hml hok
  go_enter Try.func14, Try.ntmps14
  go_wp2_with fail
  refine C1.out.mono ?_
  rintro en w1 ⟨rfl, hb1⟩
  go_wp2_with fail
  refine (C2.out w1 hb1).mono ?_
  rintro en w2 ⟨rfl, hb2⟩
  go_wp2
  go_ret2
  exact ⟨rfl, hb1.trans (hb2.mono hb1.size)⟩
set_option maxHeartbeats 4000000 in
theorem mend_bad (v : Value) (rs : List Rw) (w : World) (h : RdF w v rs) (hbad : chkF (mat rs) ≠ 0) : Calls Try.prog 21 #[v] w fun e w' => e = .returned (.tuple #[.slice none 0 0, .int .i64 (chkF (mat rs))]) ∧ Below w.heap.size w w' := by
  obtain ⟨a0, cap, rfl, -, -, -⟩ := h.rd
  have C1 := Lib.hid (fun w' (hb : Below w.heap.size w w') => check_any _ rs w' (h.next hb))
  have hn : (chkF (mat rs) != 0) = true := by simpa using hbad
  clear hbad h
  generalize chkF (mat rs) = ec at *
  refine (callsIn_wide (n := 3)).1 ?_
  refine callsIn_of_wp_marks Try.func21 rfl trivial ?_ rfl
  simp only [Try.ntmps21, List.size_toArray, List.length_cons, List.length_nil, Nat.reduceAdd, Nat.reduceSub, Array.replicate_succ, Array.replicate_zero, List.push_toArray, List.append_toArray, List.nil_append, List.cons_append]
  gi_wp2_with fail
  refine ⟨trivial, (callsIn_wide.2 (C1.out _ ((br w).alloc (Nat.le_refl _) _))).mono ?_⟩
  rintro e w1 ⟨rfl, hb1⟩
  gi_wp2
  refine ⟨.tuple #[.slice none 0 0, .int .i64 ec], by simp [results, Try.results21, go_sem], rfl, ((br w).alloc (Nat.le_refl _) _).trans (hb1.mono (by simp))⟩
theorem mend_any (v : Value) (rs : List Rw) (w : World) (h : RdF w v rs) (hok : Ok (mat rs)) :
    Calls Try.prog 21 #[v] w fun e w' => ∃ (go : Nat) (ps : List (Nat × List Int)), e = .returned (.tuple #[.slice (some ⟨go, 0, none⟩) ps.length ps.length, .int .i64 0]) ∧ Mx w' w.heap.size go ps 0 ∧ ps.map (·.2) = mendL (mat rs) (rngN rs.length) ∧ Below w.heap.size w w' := callsIn_wide.1 (mend_in v rs w h hok)
end Fa
end Go.Proofs.Ytcppeligeodomaa
