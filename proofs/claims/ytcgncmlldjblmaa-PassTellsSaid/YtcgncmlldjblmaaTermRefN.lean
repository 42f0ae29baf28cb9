/- The document's n-th term, and the term of a day. -/
import Derived.Test.YtcgncmlldjblmaaTermRefD
set_option linter.unusedSimpArgs false
set_option linter.unusedVariables false
namespace Go.Proofs.Ytcgncmlldjblmaa
open Go.RowKit
namespace Dt
theorem termDay_x (s u N k : Int) (w : World) (u1 : 1 ≤ u) (u2 : u ≤ 4) (n1 : 1 ≤ N) (n2 : N ≤ 120) (s1 : 1 ≤ s) (s2 : s ≤ 3652059) (k1 : 0 ≤ k) (k2 : k ≤ 1001) : Calls Try.prog 51 #[.int .i64 s, .agg #[.int .i64 u, .int .i64 N], .int .i64 k] w fun e w' => e = .returned (.int .i64 (dayR u N s k)) ∧ Below w.heap.size w w' := termDay_any s u N k w u1 u2 n1 n2 s1 s2 k1 k2
set_option maxHeartbeats 1000000 in
theorem nthR_any (s u N k : Int) (w : World) : Calls Try.prog 31 #[.int .i64 s, aT u N, .int .i64 k] w (PairQ (nthF u N s k) w) := by
  by_cases hc : tchk u N = 0
  · obtain ⟨u1, u2, n1, n2⟩ := tchk_ok hc
    have hF : nthF u N s k = if s < 1 ∨ 3652059 < s ∨ k < 0 ∨ 1000 < k then (0, 3) else if 3652059 < rawT u N s k then (0, 8) else (rawT u N s k, 0) := by unfold nthF; rw [if_neg (fun x => x hc)]
    have HC := Lib.hid hc; clear hc
    by_cases hs : isD s = true
    · have hs' := of_decide_eq_true hs
      obtain ⟨s1, s2⟩ := hs'
      have HS := Lib.hid hs; clear hs
      rcases (show k < 0 ∨ (0 ≤ k ∧ 1000 < k) ∨ (0 ≤ k ∧ k ≤ 1000) by omega) with h | ⟨h1, h⟩ | ⟨h1, h⟩
      · rw [if_pos (by omega)] at hF
        have HF := Lib.hid hF; clear hF
        unfold aT
        go_enter Try.func31, Try.ntmps31
        go_wp2_with fail
        refine (checkR_any u N _).mono ?_
        rintro en w1 ⟨rfl, hb1⟩
        rw [HC.out]
        go_wp2_with fail
        refine (noDay_any s _).mono ?_
        rintro en w2 ⟨rfl, rfl⟩
        rw [HS.out]
        go_wp2
        go_ret2
        exact ⟨by rw [HF.out]; rfl, bt ((br _).alloc (Nat.le_refl _) _) hb1⟩
      · rw [if_pos (by omega)] at hF
        have HF := Lib.hid hF; clear hF
        unfold aT
        go_enter Try.func31, Try.ntmps31
        go_wp2_with fail
        refine (checkR_any u N _).mono ?_
        rintro en w1 ⟨rfl, hb1⟩
        rw [HC.out]
        go_wp2_with fail
        refine (noDay_any s _).mono ?_
        rintro en w2 ⟨rfl, rfl⟩
        rw [HS.out]
        go_wp2
        go_ret2
        exact ⟨by rw [HF.out]; rfl, bt ((br _).alloc (Nat.le_refl _) _) hb1⟩
      · have hb := rawT_bd (u := u) s1 s2 n1 n2 h1 (by omega : k ≤ 1001)
        rw [if_neg (by omega)] at hF
        have hD : dayR u N s k = if 3652059 < rawT u N s k then 0 else rawT u N s k := rfl
        by_cases g : rawT u N s k ≤ 3652059
        · rw [if_neg (by omega)] at hF hD
          have hne : (rawT u N s k == 0) = false := by simp; omega
          have HF := Lib.hid hF; have HD := Lib.hid hD; clear hF hD
          unfold aT
          go_enter Try.func31, Try.ntmps31
          go_wp2_with fail
          refine (checkR_any u N _).mono ?_
          rintro en w1 ⟨rfl, hb1⟩
          rw [HC.out]
          have hb1' := bx hb1
          have k0 : w1.cell? ⟨w.heap.size, 0, none⟩ = some (.int .i64 u) := boxc hb1' 0
          have k1 : w1.cell? ⟨w.heap.size, 1, none⟩ = some (.int .i64 N) := boxc hb1' 1
          clear hb1'
          go_wp2_with fail
          refine (noDay_any s _).mono ?_
          rintro en w2 ⟨rfl, rfl⟩
          rw [HS.out]
          go_wp2_with fail
          refine (termDay_x s u N k _ u1 u2 n1 n2 s1 s2 h1 (by omega)).mono ?_
          rintro en w3 ⟨rfl, hb3⟩
          rw [HD.out]
          generalize rawT u N s k = R at *
          go_wp2
          go_ret2
          exact ⟨by rw [HF.out]; rfl, bt (bt ((br _).alloc (Nat.le_refl _) _) hb1) hb3⟩
        · rw [if_pos (by omega)] at hF hD
          have HF := Lib.hid hF; have HD := Lib.hid hD; clear hF hD
          unfold aT
          go_enter Try.func31, Try.ntmps31
          go_wp2_with fail
          refine (checkR_any u N _).mono ?_
          rintro en w1 ⟨rfl, hb1⟩
          rw [HC.out]
          have hb1' := bx hb1
          have k0 : w1.cell? ⟨w.heap.size, 0, none⟩ = some (.int .i64 u) := boxc hb1' 0
          have k1 : w1.cell? ⟨w.heap.size, 1, none⟩ = some (.int .i64 N) := boxc hb1' 1
          clear hb1'
          go_wp2_with fail
          refine (noDay_any s _).mono ?_
          rintro en w2 ⟨rfl, rfl⟩
          rw [HS.out]
          go_wp2_with fail
          refine (termDay_x s u N k _ u1 u2 n1 n2 s1 s2 h1 (by omega)).mono ?_
          rintro en w3 ⟨rfl, hb3⟩
          rw [HD.out]
          generalize rawT u N s k = R at *
          go_wp2
          go_ret2
          exact ⟨by rw [HF.out]; rfl, bt (bt ((br _).alloc (Nat.le_refl _) _) hb1) hb3⟩
    · have hs' : s < 1 ∨ 3652059 < s := by
        rcases Classical.em (1 ≤ s ∧ s ≤ 3652059) with h | h
        · exact absurd (isD_yes h.1 h.2) hs
        · omega
      have hs0 : isD s = false := isD_no hs'
      rw [if_pos (by omega)] at hF
      have HF := Lib.hid hF; have HS := Lib.hid hs0; clear hF hs hs' hs0
      unfold aT
      go_enter Try.func31, Try.ntmps31
      go_wp2_with fail
      refine (checkR_any u N _).mono ?_
      rintro en w1 ⟨rfl, hb1⟩
      rw [HC.out]
      go_wp2_with fail
      refine (noDay_any s _).mono ?_
      rintro en w2 ⟨rfl, rfl⟩
      rw [HS.out]
      go_wp2
      go_ret2
      exact ⟨by rw [HF.out]; rfl, bt ((br _).alloc (Nat.le_refl _) _) hb1⟩
  · have hF : nthF u N s k = (0, tchk u N) := by unfold nthF; rw [if_pos hc]
    have hb : (tchk u N != 0) = true := by simp [hc]
    have hb' : (tchk u N == 0) = false := by simp [hc]
    generalize hC : tchk u N = C at *
    have HF := Lib.hid hF; have HC := Lib.hid hC; clear hF hc hC
    unfold aT
    go_enter Try.func31, Try.ntmps31
    go_wp2_with fail
    refine (checkR_any u N _).mono ?_
    rintro en w1 ⟨rfl, hb1⟩
    rw [HC.out]
    go_wp2
    go_ret2
    exact ⟨by rw [HF.out]; rfl, bt ((br _).alloc (Nat.le_refl _) _) hb1⟩
end Dt
end Go.Proofs.Ytcgncmlldjblmaa
