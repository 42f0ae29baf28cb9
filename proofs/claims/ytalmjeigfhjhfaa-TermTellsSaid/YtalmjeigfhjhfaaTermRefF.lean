/- The document's term of a day. -/
import Derived.Test.YtalmjeigfhjhfaaTermRefN
import Derived.Deep.LoopGhost
set_option linter.unusedVariables false
namespace Go.Proofs.Ytalmjeigfhjhfaa
open Go.RowKit
namespace Dt
set_option maxHeartbeats 1000000 in
theorem findR_any (s u N n : Int) (w : World) : Calls Try.prog 25 #[.int .i64 s, aT u N, .int .i64 n] w (PairQ (findF u N s n) w) := by
  by_cases hc : tchk u N = 0
  · obtain ⟨u1, u2, n1, n2⟩ := tchk_ok hc
    have hF : findF u N s n = if s < 1 ∨ 3652059 < s ∨ n < 1 ∨ 3652059 < n then (0, 3) else if n < s then (0, 4) else if findK u N s n = 1001 then (0, 2) else ((findK u N s n : Int), 0) := by unfold findF; rw [if_neg (fun x => x hc)]
    have HC := Lib.hid hc; clear hc
    by_cases hs : isD s = true
    · have hs' := of_decide_eq_true hs
      obtain ⟨s1, s2⟩ := hs'
      have HS := Lib.hid hs; clear hs
      by_cases hn : isD n = true
      · have hn' := of_decide_eq_true hn
        obtain ⟨m1, m2⟩ := hn'
        have HN := Lib.hid hn; clear hn
        rw [if_neg (by omega)] at hF
        by_cases hlt : n < s
        · rw [if_pos hlt] at hF
          have HF := Lib.hid hF; clear hF
          unfold aT
          go_enter Try.func25, Try.ntmps25
          go_wp2_with fail
          refine (checkR_any u N _).mono ?_
          rintro en w1 ⟨rfl, hb1⟩
          rw [HC.out]
          go_wp2_with fail
          refine (noDay_any s _).mono ?_
          rintro en w2 ⟨rfl, rfl⟩
          rw [HS.out]
          go_wp2_with fail
          refine (noDay_any n _).mono ?_
          rintro en w2 ⟨rfl, rfl⟩
          rw [HN.out]
          go_wp2
          go_ret2
          exact ⟨by rw [HF.out]; rfl, bt ((br _).alloc (Nat.le_refl _) _) hb1⟩
        · rw [if_neg hlt] at hF
          have hlt : s ≤ n := by omega
          obtain ⟨q1, q2, q3⟩ := first_spec (over u N s n) 1001
          have HQ2 := Lib.hid q2; have HQ3 := Lib.hid q3
          have hK : firstF (over u N s n) 1001 = findK u N s n := rfl
          rw [hK] at HQ2 HQ3 q1
          obtain ⟨M, hM⟩ : ∃ M : Nat, M = 1001 := ⟨_, rfl⟩
          have HM := Lib.hid hM
          rw [← hM] at q1 HQ3
          have HF := Lib.hid hF
          clear hF q2 q3 hK hM
          generalize findK u N s n = K at *
          unfold aT
          go_enter Try.func25, Try.ntmps25
          go_wp2_with fail
          refine (checkR_any u N _).mono ?_
          rintro en w1 ⟨rfl, hb1⟩
          rw [HC.out]
          have hb1' := bx hb1
          have k0 : w1.cell? ⟨w.heap.size, 0, none⟩ = some (.int .i64 u) := boxc hb1' 0
          have k1 : w1.cell? ⟨w.heap.size, 1, none⟩ = some (.int .i64 N) := boxc hb1' 1
          have HB1 : Below w.heap.size w w1 := bt ((br _).alloc (Nat.le_refl _) _) hb1
          clear hb1'
          go_wp2_with fail
          refine (noDay_any s _).mono ?_
          rintro en w2 ⟨rfl, rfl⟩
          rw [HS.out]
          go_wp2_with fail
          refine (noDay_any n _).mono ?_
          rintro en w2 ⟨rfl, rfl⟩
          rw [HN.out]
          go_wp2
          go_loopw [9] (fun i wr => ∃ k : Nat, k ≤ K ∧ i = .int .i64 k ∧ Below w1.heap.size w1 wr) (fun i _ => M - (intOf i).toNat)
          case atStart => exact ⟨0, Nat.zero_le _, rfl, br _⟩
          case round =>
            obtain ⟨k, hk, rfl, hbw⟩ := hrel
            have c0 := kp hbw k0; have c1 := kp hbw k1
            by_cases h1001 : k ≤ 1000
            · have hb := rawT_bd (u := u) s1 s2 n1 n2 (by omega : (0 : Int) ≤ (k : Int) + 1) (by omega : (k : Int) + 1 ≤ 1001)
              have hov : over u N s n k = decide (n < rawT u N s ((k : Int) + 1)) := rfl
              have hD : dayR u N s ((k : Int) + 1) = if 3652059 < rawT u N s ((k : Int) + 1) then 0 else rawT u N s ((k : Int) + 1) := rfl
              have hT := termDay_x s u N ((k : Int) + 1)
              generalize rawT u N s ((k : Int) + 1) = R at *
              have HBW := Lib.hid hbw
              clear hbw
              by_cases hkK : k < K
              · have ho := HQ2.out k hkK
                rw [hov] at ho
                have ho := of_decide_eq_false ho
                rw [if_neg (by omega)] at hD
                have hne : (R == 0) = false := by simp; omega
                have hle : R ≤ n := by omega
                have HD := Lib.hid hD
                clear hov hD ho
                have HT := Lib.hid hT; clear hT
                go_wp2_with fail
                refine (HT.out _ u1 u2 n1 n2 s1 s2 (by omega) (by omega)).mono ?_
                rintro en w3 ⟨rfl, hb3⟩
                rw [HD.out]
                have HB3 := Lib.hid (HBW.out.trans (hb3.mono HBW.out.size))
                clear hb3
                go_wp2
                go_roundw
                case rel => exact ⟨k + 1, by omega, by go_num, by first | exact HB3.out | exact bn HB3.out _⟩
                case measure => simp [intOf]; have := HM.out; omega
              · obtain rfl : k = K := by omega
                have ho := HQ3.out (by have := HM.out; omega)
                rw [hov] at ho
                have ho := of_decide_eq_true ho
                have hFk := HF.out
                rw [if_neg (by omega)] at hFk
                have HFK := Lib.hid hFk
                have HT := Lib.hid hT; clear hT
                clear hov hFk
                by_cases hov2 : 3652059 < R
                · rw [if_pos hov2] at hD
                  have HD := Lib.hid hD
                  clear hD
                  go_wp2_with fail
                  refine (HT.out _ u1 u2 n1 n2 s1 s2 (by omega) (by omega)).mono ?_
                  rintro en w3 ⟨rfl, hb3⟩
                  rw [HD.out]
                  go_wp2
                  go_ret2
                  exact ⟨by rw [HFK.out]; rfl, bt HB1 (HBW.out.trans (hb3.mono HBW.out.size))⟩
                · rw [if_neg hov2] at hD
                  have HD := Lib.hid hD
                  have hne : (R == 0) = false := by simp; omega
                  clear hD
                  go_wp2_with fail
                  refine (HT.out _ u1 u2 n1 n2 s1 s2 (by omega) (by omega)).mono ?_
                  rintro en w3 ⟨rfl, hb3⟩
                  rw [HD.out]
                  go_wp2
                  go_ret2
                  exact ⟨by rw [HFK.out]; rfl, bt HB1 (HBW.out.trans (hb3.mono HBW.out.size))⟩
            · have hKe : K = 1001 := by have := HM.out; omega
              have hke : k = 1001 := by have := HM.out; omega
              subst hke
              have hFk := HF.out
              rw [if_pos hKe] at hFk
              have HFK := Lib.hid hFk
              clear hFk
              go_wp2
              go_ret2
              exact ⟨by rw [HFK.out]; rfl, bt HB1 hbw⟩
      · have hn' : n < 1 ∨ 3652059 < n := by
          rcases Classical.em (1 ≤ n ∧ n ≤ 3652059) with h | h
          · exact absurd (isD_yes h.1 h.2) hn
          · omega
        rw [if_pos (by omega)] at hF
        have HF := Lib.hid hF; have HN := Lib.hid (isD_no hn'); clear hF hn hn'
        unfold aT
        go_enter Try.func25, Try.ntmps25
        go_wp2_with fail
        refine (checkR_any u N _).mono ?_
        rintro en w1 ⟨rfl, hb1⟩
        rw [HC.out]
        go_wp2_with fail
        refine (noDay_any s _).mono ?_
        rintro en w2 ⟨rfl, rfl⟩
        rw [HS.out]
        go_wp2_with fail
        refine (noDay_any n _).mono ?_
        rintro en w2 ⟨rfl, rfl⟩
        rw [HN.out]
        go_wp2
        go_ret2
        exact ⟨by rw [HF.out]; rfl, bt ((br _).alloc (Nat.le_refl _) _) hb1⟩
    · have hs' : s < 1 ∨ 3652059 < s := by
        rcases Classical.em (1 ≤ s ∧ s ≤ 3652059) with h | h
        · exact absurd (isD_yes h.1 h.2) hs
        · omega
      rw [if_pos (by omega)] at hF
      have HF := Lib.hid hF; have HS := Lib.hid (isD_no hs'); clear hF hs hs'
      unfold aT
      go_enter Try.func25, Try.ntmps25
      go_wp2_with fail
      refine (checkR_any u N _).mono ?_
      rintro en w1 ⟨rfl, hb1⟩
      rw [HC.out]
      go_wp2_with fail
      refine (noDay_any s _).mono ?_
      rintro en w2 ⟨rfl, rfl⟩
      rw [HS.out]
      go_wp2
      go_ret2
      exact ⟨by rw [HF.out]; rfl, bt ((br _).alloc (Nat.le_refl _) _) hb1⟩
  · have hF : findF u N s n = (0, tchk u N) := by unfold findF; rw [if_pos hc]
    have hb : (tchk u N != 0) = true := by simp [hc]
    have hb' : (tchk u N == 0) = false := by simp [hc]
    generalize hC : tchk u N = C at *
    have HF := Lib.hid hF; have HC := Lib.hid hC; clear hF hc hC
    unfold aT
    go_enter Try.func25, Try.ntmps25
    go_wp2_with fail
    refine (checkR_any u N _).mono ?_
    rintro en w1 ⟨rfl, hb1⟩
    rw [HC.out]
    go_wp2
    go_ret2
    exact ⟨by rw [HF.out]; rfl, bt ((br _).alloc (Nat.le_refl _) _) hb1⟩
end Dt
end Go.Proofs.Ytalmjeigfhjhfaa
