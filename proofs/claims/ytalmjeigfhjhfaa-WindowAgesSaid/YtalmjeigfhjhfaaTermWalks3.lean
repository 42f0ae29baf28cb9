/- Terms: the one of a day. -/
import Derived.Test.YtalmjeigfhjhfaaTermWalks2
import Derived.Test.YtalmjeigfhjhfaaTermSearch
set_option linter.unusedVariables false
namespace Go.Proofs.Ytalmjeigfhjhfaa
open Go.RowKit
namespace Dt
theorem box3 {w w1 : World} {A B C : Array Value} {ta tb tc : TypeId} {fa fb fc : Nat × Nat}
    (hb : Below (((w.alloc (.cells A ta fa)).alloc (.cells B tb fb)).alloc (.cells C tc fc)).heap.size (((w.alloc (.cells A ta fa)).alloc (.cells B tb fb)).alloc (.cells C tc fc)) w1) :
    w.heap.size + 2 < w1.heap.size ∧ (∀ j, w1.cell? ⟨w.heap.size, j, none⟩ = A[j]?) ∧ (∀ j, w1.cell? ⟨w.heap.size + 1, j, none⟩ = B[j]?) ∧ (∀ j, w1.cell? ⟨w.heap.size + 1 + 1, j, none⟩ = C[j]?) := by
  have s1 : (w.alloc (.cells A ta fa)).heap.size = w.heap.size + 1 := asz _ _
  have s2 : ((w.alloc (.cells A ta fa)).alloc (.cells B tb fb)).heap.size = w.heap.size + 2 := by rw [asz, s1]
  have s3 := asz ((w.alloc (.cells A ta fa)).alloc (.cells B tb fb)) (.cells C tc fc)
  have hs := hb.size
  refine ⟨by omega, fun j => ?_, fun j => ?_, fun j => ?_⟩
  · rw [hb.cell (p := ⟨w.heap.size, j, none⟩) (by show w.heap.size < _; omega), World.cell?_alloc_lt _ _ _ (by show w.heap.size < _; omega), World.cell?_alloc_lt _ _ _ (by show w.heap.size < _; omega), World.cell?_alloc_mark]
  · rw [hb.cell (p := ⟨w.heap.size + 1, j, none⟩) (by show w.heap.size + 1 < _; omega), World.cell?_alloc_lt _ _ _ (by show w.heap.size + 1 < _; omega), ← s1, World.cell?_alloc_mark]
  · rw [hb.cell (p := ⟨w.heap.size + 1 + 1, j, none⟩) (by show w.heap.size + 1 + 1 < _; omega), show w.heap.size + 1 + 1 = ((w.alloc (.cells A ta fa)).alloc (.cells B tb fb)).heap.size from s2.symm, World.cell?_alloc_mark]
theorem below3 (w : World) (a b c : Obj) : Below w.heap.size w (((w.alloc a).alloc b).alloc c) := (((br w).alloc (Nat.le_refl _) _).alloc (by simp) _).alloc (by simp <;> omega) _
set_option maxHeartbeats 2000000 in
theorem find_any (s u N n : Int) (w : World) : Calls Try.prog 22 #[.int .i64 s, aT u N, .int .i64 n] w (PairQ (findF u N s n) w) := by
  by_cases hc : tchk u N = 0
  · obtain ⟨u1, u2, n1, n2⟩ := tchk_ok hc
    have hF : findF u N s n = if s < 1 ∨ 3652059 < s ∨ n < 1 ∨ 3652059 < n then (0, 3) else if n < s then (0, 4) else if findK u N s n = 1001 then (0, 2) else (((findK u N s n : Nat) : Int), 0) := by unfold findF; rw [if_neg (fun x => x hc)]
    have HC := Lib.hid hc; clear hc
    by_cases hs : isD s = true
    · obtain ⟨s1, s2⟩ := of_decide_eq_true hs
      have HS := Lib.hid hs; clear hs
      by_cases hn : isD n = true
      · obtain ⟨m1, m2⟩ := of_decide_eq_true hn
        have HN := Lib.hid hn; clear hn
        rw [if_neg (by omega)] at hF
        by_cases hlt : n < s
        · rw [if_pos hlt] at hF
          have HF := Lib.hid hF; clear hF
          unfold aT
          go_enter Try.func22, Try.ntmps22
          go_wp2_with fail
          refine (check_any u N _).mono ?_
          rintro en w1 ⟨rfl, hb1⟩
          rw [HC.out]
          obtain ⟨lb, k0, k1, k2⟩ := box3 hb1
          have c0 : w1.cell? ⟨w.heap.size, 0, none⟩ = some (.int .i64 s) := k0 0
          have c1 : w1.cell? ⟨w.heap.size + 1, 0, none⟩ = some (.int .i64 u) := k1 0
          have c2 : w1.cell? ⟨w.heap.size + 1, 1, none⟩ = some (.int .i64 N) := k1 1
          have c3 : w1.cell? ⟨w.heap.size + 1 + 1, 0, none⟩ = some (.int .i64 n) := k2 0
          have HB1 := bt (below3 w _ _ _) hb1
          clear k0 k1 k2 hb1
          go_wp2_with fail
          refine (is_any _ _).mono ?_
          rintro en w2 ⟨rfl, rfl⟩
          rw [HS.out]
          go_wp2_with fail
          refine (is_any _ _).mono ?_
          rintro en w2 ⟨rfl, rfl⟩
          rw [HN.out]
          go_wp2
          go_ret2
          exact ⟨by rw [HF.out]; rfl, HB1⟩
        · rw [if_neg hlt] at hF
          have hlt : s ≤ n := by omega
          obtain ⟨M, hM⟩ : ∃ M : Nat, M = 1001 := ⟨_, rfl⟩
          have hk := (first_spec (over u N s n) M).1
          have hkd : firstF (over u N s n) M = findK u N s n := by rw [hM]; rfl
          have hMz : (1001 : Int) = (M : Int) := by omega
          have hMb : M ≤ 1001 := by omega
          have HM := Lib.hid hMz
          generalize findK u N s n = K at *
          have HKD := Lib.hid hkd
          have hKb : K ≤ 1001 := by omega
          clear hkd hk hMz hM
          have eg : ∀ args w, (callFunc 45 args).run Try.prog w = .ok (.enter 45 args) w := enters_of Try.func45 (by kernel_rfl) rfl
          have EG := Lib.hid eg
          clear eg
          by_cases hK : K = 1001
          · rw [if_pos hK] at hF
            subst hK
            have HF := Lib.hid hF; clear hF
            unfold aT
            go_enter Try.func22, Try.ntmps22
            go_wp2_with fail
            refine (check_any u N _).mono ?_
            rintro en w1 ⟨rfl, hb1⟩
            rw [HC.out]
            obtain ⟨lb, k0, k1, k2⟩ := box3 hb1
            have c0 : w1.cell? ⟨w.heap.size, 0, none⟩ = some (.int .i64 s) := k0 0
            have c1 : w1.cell? ⟨w.heap.size + 1, 0, none⟩ = some (.int .i64 u) := k1 0
            have c2 : w1.cell? ⟨w.heap.size + 1, 1, none⟩ = some (.int .i64 N) := k1 1
            have c3 : w1.cell? ⟨w.heap.size + 1 + 1, 0, none⟩ = some (.int .i64 n) := k2 0
            have HB1 := bt (below3 w _ _ _) hb1
            clear k0 k1 k2 hb1
            go_wp2_with fail
            refine (is_any _ _).mono ?_
            rintro en w2 ⟨rfl, rfl⟩
            rw [HS.out]
            go_wp2_with fail
            refine (is_any _ _).mono ?_
            rintro en w2 ⟨rfl, rfl⟩
            rw [HN.out]
            have hS := search_any 45 #[.pointer (some ⟨w.heap.size, 0, none⟩), .pointer (some ⟨w.heap.size + 1, 0, none⟩), .pointer (some ⟨w.heap.size + 1 + 1, 0, none⟩)] M 1001 HM.out (over u N s n) w1 EG.out (Nat.le_trans hMb (by decide))
              (fun w3 i hb3 hi => clo_any w.heap.size (w.heap.size + 1) (w.heap.size + 1 + 1) u N s n i w3 u1 u2 n1 n2 s1 s2 (Nat.le_of_lt_succ (Nat.lt_of_lt_of_le hi hMb)) (kp hb3 c0) (kp hb3 c1) (kp hb3 c2) (kp hb3 c3)) (over_mono n1 s1 s2)
            unfold NatQ at hS
            rw [HKD.out] at hS
            go_wp2_with fail
            refine hS.mono ?_
            rintro en w4 ⟨rfl, hb4⟩
            go_wp2
            go_ret2
            exact ⟨by rw [HF.out]; rfl, bt HB1 hb4⟩
          · rw [if_neg hK] at hF
            have hK2 : K ≤ 1000 := by omega
            have HF := Lib.hid hF; clear hF hK hKb
            unfold aT
            go_enter Try.func22, Try.ntmps22
            go_wp2_with fail
            refine (check_any u N _).mono ?_
            rintro en w1 ⟨rfl, hb1⟩
            rw [HC.out]
            obtain ⟨lb, k0, k1, k2⟩ := box3 hb1
            have c0 : w1.cell? ⟨w.heap.size, 0, none⟩ = some (.int .i64 s) := k0 0
            have c1 : w1.cell? ⟨w.heap.size + 1, 0, none⟩ = some (.int .i64 u) := k1 0
            have c2 : w1.cell? ⟨w.heap.size + 1, 1, none⟩ = some (.int .i64 N) := k1 1
            have c3 : w1.cell? ⟨w.heap.size + 1 + 1, 0, none⟩ = some (.int .i64 n) := k2 0
            have HB1 := bt (below3 w _ _ _) hb1
            clear k0 k1 k2 hb1
            go_wp2_with fail
            refine (is_any _ _).mono ?_
            rintro en w2 ⟨rfl, rfl⟩
            rw [HS.out]
            go_wp2_with fail
            refine (is_any _ _).mono ?_
            rintro en w2 ⟨rfl, rfl⟩
            rw [HN.out]
            have hS := search_any 45 #[.pointer (some ⟨w.heap.size, 0, none⟩), .pointer (some ⟨w.heap.size + 1, 0, none⟩), .pointer (some ⟨w.heap.size + 1 + 1, 0, none⟩)] M 1001 HM.out (over u N s n) w1 EG.out (Nat.le_trans hMb (by decide))
              (fun w3 i hb3 hi => clo_any w.heap.size (w.heap.size + 1) (w.heap.size + 1 + 1) u N s n i w3 u1 u2 n1 n2 s1 s2 (Nat.le_of_lt_succ (Nat.lt_of_lt_of_le hi hMb)) (kp hb3 c0) (kp hb3 c1) (kp hb3 c2) (kp hb3 c3)) (over_mono n1 s1 s2)
            unfold NatQ at hS
            rw [HKD.out] at hS
            go_wp2_with fail
            refine hS.mono ?_
            rintro en w4 ⟨rfl, hb4⟩
            go_wp2
            go_ret2
            exact ⟨by rw [HF.out]; rfl, bt HB1 hb4⟩
      · have hn' : n < 1 ∨ 3652059 < n := by
          rcases Classical.em (1 ≤ n ∧ n ≤ 3652059) with h | h
          · exact absurd (isD_yes h.1 h.2) hn
          · omega
        rw [if_pos (by omega)] at hF
        have HF := Lib.hid hF; have HN := Lib.hid (isD_no hn'); clear hF hn hn'
        unfold aT
        go_enter Try.func22, Try.ntmps22
        go_wp2_with fail
        refine (check_any u N _).mono ?_
        rintro en w1 ⟨rfl, hb1⟩
        rw [HC.out]
        obtain ⟨lb, k0, k1, k2⟩ := box3 hb1
        have c0 : w1.cell? ⟨w.heap.size, 0, none⟩ = some (.int .i64 s) := k0 0
        have c1 : w1.cell? ⟨w.heap.size + 1, 0, none⟩ = some (.int .i64 u) := k1 0
        have c2 : w1.cell? ⟨w.heap.size + 1, 1, none⟩ = some (.int .i64 N) := k1 1
        have c3 : w1.cell? ⟨w.heap.size + 1 + 1, 0, none⟩ = some (.int .i64 n) := k2 0
        have HB1 := bt (below3 w _ _ _) hb1
        clear k0 k1 k2 hb1
        go_wp2_with fail
        refine (is_any _ _).mono ?_
        rintro en w2 ⟨rfl, rfl⟩
        rw [HS.out]
        go_wp2_with fail
        refine (is_any _ _).mono ?_
        rintro en w2 ⟨rfl, rfl⟩
        rw [HN.out]
        go_wp2
        go_ret2
        exact ⟨by rw [HF.out]; rfl, HB1⟩
    · have hs' : s < 1 ∨ 3652059 < s := by
        rcases Classical.em (1 ≤ s ∧ s ≤ 3652059) with h | h
        · exact absurd (isD_yes h.1 h.2) hs
        · omega
      rw [if_pos (by omega)] at hF
      have HF := Lib.hid hF; have HS := Lib.hid (isD_no hs'); clear hF hs hs'
      unfold aT
      go_enter Try.func22, Try.ntmps22
      go_wp2_with fail
      refine (check_any u N _).mono ?_
      rintro en w1 ⟨rfl, hb1⟩
      rw [HC.out]
      obtain ⟨lb, k0, k1, k2⟩ := box3 hb1
      have c0 : w1.cell? ⟨w.heap.size, 0, none⟩ = some (.int .i64 s) := k0 0
      have c1 : w1.cell? ⟨w.heap.size + 1, 0, none⟩ = some (.int .i64 u) := k1 0
      have c2 : w1.cell? ⟨w.heap.size + 1, 1, none⟩ = some (.int .i64 N) := k1 1
      have c3 : w1.cell? ⟨w.heap.size + 1 + 1, 0, none⟩ = some (.int .i64 n) := k2 0
      have HB1 := bt (below3 w _ _ _) hb1
      clear k0 k1 k2 hb1
      go_wp2_with fail
      refine (is_any _ _).mono ?_
      rintro en w2 ⟨rfl, rfl⟩
      rw [HS.out]
      go_wp2
      go_ret2
      exact ⟨by rw [HF.out]; rfl, HB1⟩
  · have hF : findF u N s n = (0, tchk u N) := by unfold findF; rw [if_pos hc]
    have hb : (tchk u N != 0) = true := by simp [hc]
    generalize hC : tchk u N = C at *
    have HF := Lib.hid hF; have HC := Lib.hid hC; clear hF hc hC
    unfold aT
    go_enter Try.func22, Try.ntmps22
    go_wp2_with fail
    refine (check_any u N _).mono ?_
    rintro en w1 ⟨rfl, hb1⟩
    rw [HC.out]
    obtain ⟨lb, k0, k1, k2⟩ := box3 hb1
    have c0 : w1.cell? ⟨w.heap.size, 0, none⟩ = some (.int .i64 s) := k0 0
    have c1 : w1.cell? ⟨w.heap.size + 1, 0, none⟩ = some (.int .i64 u) := k1 0
    have c2 : w1.cell? ⟨w.heap.size + 1, 1, none⟩ = some (.int .i64 N) := k1 1
    have c3 : w1.cell? ⟨w.heap.size + 1 + 1, 0, none⟩ = some (.int .i64 n) := k2 0
    have HB1 := bt (below3 w _ _ _) hb1
    clear k0 k1 k2 hb1
    go_wp2
    go_ret2
    exact ⟨by rw [HF.out]; rfl, HB1⟩
end Dt
end Go.Proofs.Ytalmjeigfhjhfaa
