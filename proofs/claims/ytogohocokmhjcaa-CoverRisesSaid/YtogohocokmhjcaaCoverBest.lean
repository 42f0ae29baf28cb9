/- The best price and the plan: package cover. -/
import Derived.Test.YtogohocokmhjcaaCoverTable
set_option linter.unusedVariables false
namespace Go.Proofs.Ytogohocokmhjcaa
open Go.RowKit
namespace Cv
theorem check_vals (l : List Offer) : check l = 0 ∨ check l = 2 ∨ check l = 3 ∨ check l = 5 := by
  unfold check; repeat' split
  all_goals simp
theorem check_ok {l : List Offer} (h : check l = 0) : l.length ≤ 8 ∧ Ok l := by
  unfold check at h
  by_cases h1 : l.length = 0
  · rw [if_pos h1] at h; simp at h
  · rw [if_neg h1] at h
    by_cases h2 : l.length > 8
    · rw [if_pos h2] at h; simp at h
    · rw [if_neg h2] at h
      by_cases h3 : ∀ o ∈ l, okO o
      · exact ⟨by omega, fun e => h1 (by rw [e]; rfl), h3⟩
      · rw [if_neg h3] at h; simp at h
def readyF (l : List Offer) (d : Int) : Int := if check l ≠ 0 then check l else if d < 0 ∨ 400 < d then 3 else 0
def RdyQ (l : List Offer) (d : Int) (w : World) (e : Ending) (w' : World) : Prop := e = .returned (.int .i64 (readyF l d)) ∧ Below w.heap.size w w'
theorem ready_any (v : Value) (xs : List Offer) (d : Int) (w : World) (h : Rd 2 eO w v xs) : Calls Try.prog 39 #[v, .int .i64 d] w (RdyQ xs d w) := by
  have H := Lib.hid h
  obtain ⟨a, cap, rfl, h1, h2, h3⟩ := h
  clear h3
  by_cases hc : check xs = 0
  · have Hc := Lib.hid hc
    rcases (show d < 0 ∨ (0 ≤ d ∧ 400 < d) ∨ (0 ≤ d ∧ d ≤ 400) by omega) with g | ⟨g1, g2⟩ | ⟨g1, g2⟩
    · have hr : readyF xs d = 3 := by unfold readyF; rw [if_neg (fun x => x hc), if_pos (by omega)]
      have Hr := Lib.hid hr; clear hr hc
      go_enter Try.func39, Try.ntmps39
      go_wp2_with fail
      refine (check_any _ xs _ H.out).mono ?_
      rintro en w1 ⟨rfl, hb1⟩
      rw [Hc.out]
      go_wp2
      go_ret
      exact ⟨by rw [Hr.out]; rfl, hb1⟩
    · have hr : readyF xs d = 3 := by unfold readyF; rw [if_neg (fun x => x hc), if_pos (by omega)]
      have Hr := Lib.hid hr; clear hr hc
      go_enter Try.func39, Try.ntmps39
      go_wp2_with fail
      refine (check_any _ xs _ H.out).mono ?_
      rintro en w1 ⟨rfl, hb1⟩
      rw [Hc.out]
      go_wp2
      go_ret
      exact ⟨by rw [Hr.out]; rfl, hb1⟩
    · have hr : readyF xs d = 0 := by unfold readyF; rw [if_neg (fun x => x hc), if_neg (by omega)]
      have Hr := Lib.hid hr; clear hr hc
      go_enter Try.func39, Try.ntmps39
      go_wp2_with fail
      refine (check_any _ xs _ H.out).mono ?_
      rintro en w1 ⟨rfl, hb1⟩
      rw [Hc.out]
      go_wp2
      go_ret
      exact ⟨by rw [Hr.out]; rfl, hb1⟩
  · have hr : readyF xs d = check xs := by unfold readyF; rw [if_pos hc]
    have hb : (check xs != 0) = true := by simp [hc]
    generalize hC : check xs = C at *
    have HC := Lib.hid hC; have Hr := Lib.hid hr
    clear hr hc hC
    go_enter Try.func39, Try.ntmps39
    go_wp2_with fail
    refine (check_any _ xs _ H.out).mono ?_
    rintro en w1 ⟨rfl, hb1⟩
    rw [HC.out]
    go_wp2
    go_ret
    exact ⟨by rw [Hr.out]; rfl, hb1⟩
def bestF (l : List Offer) (d : Int) : Int × Int := if readyF l d ≠ 0 then (0, readyF l d) else (best l d.toNat, 0)
def BestQ (l : List Offer) (d : Int) (w : World) (e : Ending) (w' : World) : Prop := e = .returned (.tuple #[.int .i64 (bestF l d).1, .int .i64 (bestF l d).2]) ∧ Below w.heap.size w w'
theorem ready_ok {l : List Offer} {d : Int} (h : readyF l d = 0) : check l = 0 ∧ ∃ n : Nat, d = n ∧ n ≤ 400 := by
  unfold readyF at h
  by_cases hc : check l = 0
  · rw [if_neg (fun x => x hc)] at h
    by_cases hd : d < 0 ∨ 400 < d
    · rw [if_pos hd] at h; simp at h
    · exact ⟨hc, d.toNat, by omega, by omega⟩
  · rw [if_pos hc] at h; exact absurd h hc
theorem best_any (v : Value) (xs : List Offer) (d : Int) (w : World) (h : Rd 2 eO w v xs) : Calls Try.prog 23 #[v, .int .i64 d] w (BestQ xs d w) := by
  have H := Lib.hid h
  obtain ⟨a, cap, rfl, h1, h2, h3⟩ := h
  clear h3
  by_cases hr : readyF xs d = 0
  · obtain ⟨hc, n, rfl, hn⟩ := ready_ok hr
    have hf : bestF xs n = (best xs n, 0) := by unfold bestF; rw [if_neg (fun x => x hr)]; simp
    obtain ⟨hl8, hok⟩ := check_ok hc
    have Hf := Lib.hid hf; have Hr := Lib.hid hr; have OK := Lib.hid hok
    have i1 : (n : Int) < 401 := by omega
    have i0 : (0 : Int) ≤ (n : Int) := by omega
    clear hf hr hok hc
    go_enter Try.func23, Try.ntmps23
    go_wp2_with fail
    refine (ready_any _ xs n _ H.out).mono ?_
    rintro en w1 ⟨rfl, hb1⟩
    rw [Hr.out]
    have H1 := Lib.hid (H.out.below hb1)
    go_wp2_with fail
    refine (table_any _ xs n hn _ H1.out hl8 OK.out).mono ?_
    rintro en w2 ⟨g, T, rfl, hT, hB⟩
    have cn := hT.cell n hn
    have hTn := hB n (Nat.le_refl _)
    rw [hTn] at cn
    have hb2 := hT.below
    clear hT hB hTn
    go_wp2
    go_ret2
    exact ⟨by rw [Hf.out]; rfl, bt hb1 hb2⟩
  · have hf : bestF xs d = (0, readyF xs d) := by unfold bestF; rw [if_pos hr]
    have hb : (readyF xs d != 0) = true := by simp [hr]
    generalize hC : readyF xs d = C at *
    have HC := Lib.hid hC; have Hf := Lib.hid hf
    clear hr hC hf
    go_enter Try.func23, Try.ntmps23
    go_wp2_with fail
    refine (ready_any _ xs d _ H.out).mono ?_
    rintro en w1 ⟨rfl, hb1⟩
    rw [HC.out]
    go_wp2
    go_ret2
    exact ⟨by rw [Hf.out]; rfl, hb1⟩
end Cv
end Go.Proofs.Ytogohocokmhjcaa
