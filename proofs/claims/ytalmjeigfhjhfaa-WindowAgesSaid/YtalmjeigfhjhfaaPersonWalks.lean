/- Persons: the day one turns so old, one's age. -/
import Derived.Test.YtalmjeigfhjhfaaPersonPlain
import Derived.Test.YtalmjeigfhjhfaaTermWalks3
import Derived.Deep.RegionHeld3
set_option linter.unusedVariables false
namespace Go.Proofs.Ytalmjeigfhjhfaa
open Go.RowKit
namespace Dt
theorem turned_any (b a : Int) (w : World) (h1 : 1 ≤ b) (h2 : b ≤ 3652059) (p0 : 0 ≤ a) (p1 : a ≤ 151) : Calls Try.prog 37 #[.int .i64 b, .int .i64 a] w (IntQ (tn b a) w) := by
  go_enter Try.func37, Try.ntmps37
  go_wp2_with fail
  refine (months_any b (12 * a) _ h1 h2 (by omega) (by omega)).mono ?_
  rintro en w1 ⟨rfl, hb1⟩
  go_wp2
  go_ret
  exact ⟨rfl, hb1⟩
set_option maxHeartbeats 1000000 in
theorem turns_any (b a : Int) (w : World) : Calls Try.prog 13 #[.int .i64 b, .int .i64 a] w (PairQ (turnsF b a) w) := by
  have hF : turnsF b a = if b < 1 ∨ 3652059 < b ∨ a < 0 ∨ 150 < a then (0, 3) else if 3652059 < tn b a then (0, 8) else (tn b a, 0) := rfl
  by_cases hs : isD b = true
  · obtain ⟨s1, s2⟩ := of_decide_eq_true hs
    have HS := Lib.hid hs; clear hs
    rcases (show a < 0 ∨ (0 ≤ a ∧ 150 < a) ∨ (0 ≤ a ∧ a ≤ 150) by omega) with h | ⟨h1, h⟩ | ⟨h1, h⟩
    · rw [if_pos (by omega)] at hF
      have HF := Lib.hid hF; clear hF
      go_enter Try.func13, Try.ntmps13
      go_wp2_with fail
      refine (is_any _ _).mono ?_
      rintro en w2 ⟨rfl, rfl⟩
      rw [HS.out]
      go_wp2
      go_ret2
      exact ⟨by rw [HF.out]; rfl, br _⟩
    · rw [if_pos (by omega)] at hF
      have HF := Lib.hid hF; clear hF
      go_enter Try.func13, Try.ntmps13
      go_wp2_with fail
      refine (is_any _ _).mono ?_
      rintro en w2 ⟨rfl, rfl⟩
      rw [HS.out]
      go_wp2
      go_ret2
      exact ⟨by rw [HF.out]; rfl, br _⟩
    · have hb := tn_bd s1 s2 h1
      rw [if_neg (by omega)] at hF
      by_cases g : 3652059 < tn b a
      · rw [if_pos g] at hF
        have HI := Lib.hid (isD_no (.inr g))
        have HF := Lib.hid hF; clear hF
        go_enter Try.func13, Try.ntmps13
        go_wp2_with fail
        refine (is_any _ _).mono ?_
        rintro en w2 ⟨rfl, rfl⟩
        rw [HS.out]
        go_wp2_with fail
        refine (turned_any b a _ s1 s2 h1 (by omega)).mono ?_
        rintro en w3 ⟨rfl, hb3⟩
        generalize tn b a = R at *
        go_wp2_with fail
        refine (is_any _ _).mono ?_
        rintro en w4 ⟨rfl, rfl⟩
        rw [HI.out]
        go_wp2
        go_ret2
        exact ⟨by rw [HF.out]; rfl, hb3⟩
      · rw [if_neg g] at hF
        have HI := Lib.hid (isD_yes (by omega) (Int.not_lt.mp g))
        have HF := Lib.hid hF; clear hF
        go_enter Try.func13, Try.ntmps13
        go_wp2_with fail
        refine (is_any _ _).mono ?_
        rintro en w2 ⟨rfl, rfl⟩
        rw [HS.out]
        go_wp2_with fail
        refine (turned_any b a _ s1 s2 h1 (by omega)).mono ?_
        rintro en w3 ⟨rfl, hb3⟩
        generalize tn b a = R at *
        go_wp2_with fail
        refine (is_any _ _).mono ?_
        rintro en w4 ⟨rfl, rfl⟩
        rw [HI.out]
        go_wp2
        go_ret2
        exact ⟨by rw [HF.out]; rfl, hb3⟩
  · have hs' : b < 1 ∨ 3652059 < b := by
      rcases Classical.em (1 ≤ b ∧ b ≤ 3652059) with h | h
      · exact absurd (isD_yes h.1 h.2) hs
      · omega
    rw [if_pos (by omega)] at hF
    have HF := Lib.hid hF; have HS := Lib.hid (isD_no hs'); clear hF hs hs'
    go_enter Try.func13, Try.ntmps13
    go_wp2_with fail
    refine (is_any _ _).mono ?_
    rintro en w2 ⟨rfl, rfl⟩
    rw [HS.out]
    go_wp2
    go_ret2
    exact ⟨by rw [HF.out]; rfl, br _⟩
theorem cloA_any (B0 B1 : Nat) (b n : Int) (k : Nat) (w : World) (s1 : 1 ≤ b) (s2 : b ≤ 3652059) (hk : k ≤ 150)
    (c0 : w.cell? ⟨B0, 0, none⟩ = some (.int .i64 b)) (c1 : w.cell? ⟨B1, 0, none⟩ = some (.int .i64 n)) :
    Calls Try.prog 36 #[.int .i64 k, .pointer (some ⟨B0, 0, none⟩), .pointer (some ⟨B1, 0, none⟩)] w fun e w' => e = .returned (.bool (overA b n k)) ∧ Below w.heap.size w w' := by
  obtain ⟨R, hR⟩ : ∃ R, tn b ((k : Int) + 1) = R := ⟨_, rfl⟩
  have ho : overA b n k = decide (n < R) := by unfold overA; rw [hR]
  have HO := Lib.hid ho; have HR := Lib.hid hR
  have hsum : IntKind.i64.wrap ((k : Int) + 1) = (k : Int) + 1 := IntWalk.i64_in _ (by omega)
  have hBW := br w
  clear ho hR
  go_enter Try.func36, Try.ntmps36
  go_wp2_with fail
  go_region_held3 (fun w' => w'.cell? ⟨B0, 0, none⟩ = some (.int .i64 b) ∧ w'.cell? ⟨B1, 0, none⟩ = some (.int .i64 n))
    (first | go_keep | (go_split_ands; exact ⟨kp hb1 c0, kp hb1 c1⟩))
    (first | (go_at_call 37; (with_reducible refine (turned_any b ((k : Int) + 1) _ s1 s2 (by omega) (by omega)).mono ?_); rintro en w1 ⟨rfl, hb1⟩))
  all_goals
    rw [HR.out]
    go_wp2
    go_ret
    exact ⟨by rw [HO.out]; rfl, bd hBW hb1⟩
theorem box2 {w w1 : World} {A B : Array Value} {ta tb : TypeId} {fa fb : Nat × Nat}
    (hb : Below ((w.alloc (.cells A ta fa)).alloc (.cells B tb fb)).heap.size ((w.alloc (.cells A ta fa)).alloc (.cells B tb fb)) w1) :
    (∀ j, w1.cell? ⟨w.heap.size, j, none⟩ = A[j]?) ∧ (∀ j, w1.cell? ⟨w.heap.size + 1, j, none⟩ = B[j]?) := by
  have s1 : (w.alloc (.cells A ta fa)).heap.size = w.heap.size + 1 := asz _ _
  have s2 := asz (w.alloc (.cells A ta fa)) (.cells B tb fb)
  refine ⟨fun j => ?_, fun j => ?_⟩
  · rw [hb.cell (p := ⟨w.heap.size, j, none⟩) (by rw [s2, s1]; show w.heap.size < _; omega)]
    have h2 := (br (w.alloc (.cells A ta fa))).alloc (Nat.le_refl _) (.cells B tb fb)
    rw [h2.cell (p := ⟨w.heap.size, j, none⟩) (by rw [s1]; show w.heap.size < _; omega), World.cell?_alloc_mark]
  · rw [hb.cell (p := ⟨w.heap.size + 1, j, none⟩) (by rw [s2, s1]; show w.heap.size + 1 < _; omega), ← s1, World.cell?_alloc_mark]
theorem below2 (w : World) (a b : Obj) : Below w.heap.size w ((w.alloc a).alloc b) := ((br w).alloc (Nat.le_refl _) _).alloc (by simp) _
set_option maxHeartbeats 2000000 in
theorem age_any (b n : Int) (w : World) : Calls Try.prog 12 #[.int .i64 b, .int .i64 n] w (PairQ (ageF b n) w) := by
  have hF : ageF b n = if b < 1 ∨ 3652059 < b ∨ n < 1 ∨ 3652059 < n then (0, 3) else if n < b then (0, 4) else if ageK b n = 151 then (0, 2) else ((ageK b n : Int), 0) := rfl
  have w0b := below2 w (.cells #[.int .i64 b] 3) (.cells #[.int .i64 n] 3)
  have b2 := box2 (w := w) (A := #[.int .i64 b]) (B := #[.int .i64 n]) (ta := 3) (tb := 3) (fa := (0, 0)) (fb := (0, 0)) (br _)
  have c0 : ((w.alloc (.cells #[.int .i64 b] 3)).alloc (.cells #[.int .i64 n] 3)).cell? ⟨w.heap.size, 0, none⟩ = some (.int .i64 b) := b2.1 0
  have c1 : ((w.alloc (.cells #[.int .i64 b] 3)).alloc (.cells #[.int .i64 n] 3)).cell? ⟨w.heap.size + 1, 0, none⟩ = some (.int .i64 n) := b2.2 0
  clear b2
  by_cases hs : isD b = true
  · obtain ⟨s1, s2⟩ := of_decide_eq_true hs
    have HS := Lib.hid hs; clear hs
    by_cases hn : isD n = true
    · obtain ⟨m1, m2⟩ := of_decide_eq_true hn
      have HN := Lib.hid hn; clear hn
      rw [if_neg (by omega)] at hF
      by_cases hlt : n < b
      · rw [if_pos hlt] at hF
        have HF := Lib.hid hF; clear hF
        go_enter Try.func12, Try.ntmps12
        go_wp2_with fail
        refine (is_any _ _).mono ?_
        rintro en w2 ⟨rfl, rfl⟩
        rw [HS.out]
        go_wp2_with fail
        refine (is_any _ _).mono ?_
        rintro en w2 ⟨rfl, rfl⟩
        rw [HN.out]
        go_wp2
        go_ret2
        exact ⟨by rw [HF.out]; rfl, w0b⟩
      · rw [if_neg hlt] at hF
        have hlt : b ≤ n := by omega
        obtain ⟨M, hM⟩ : ∃ M : Nat, M = 151 := ⟨_, rfl⟩
        have hkd : firstF (overA b n) M = ageK b n := by rw [hM]; rfl
        have hk := (first_spec (overA b n) M).1
        rw [hkd] at hk
        have hMz : (151 : Int) = (M : Int) := by omega
        have hMb : M ≤ 151 := by omega
        have HM := Lib.hid hMz
        generalize ageK b n = K at *
        have HKD := Lib.hid hkd
        have hKb : K ≤ 151 := by omega
        clear hkd hk hMz hM
        have eg : ∀ args w, (callFunc 36 args).run Try.prog w = .ok (.enter 36 args) w := enters_of Try.func36 (by kernel_rfl) rfl
        have EG := Lib.hid eg
        clear eg
        have hS := search_any 36 #[.pointer (some ⟨w.heap.size, 0, none⟩), .pointer (some ⟨w.heap.size + 1, 0, none⟩)] M 151 HM.out (overA b n) ((w.alloc (.cells #[.int .i64 b] 3)).alloc (.cells #[.int .i64 n] 3)) EG.out (Nat.le_trans hMb (by decide))
          (fun w3 i hb3 hi => cloA_any w.heap.size (w.heap.size + 1) b n i w3 s1 s2 (Nat.le_of_lt_succ (Nat.lt_of_lt_of_le hi hMb)) (kp hb3 c0) (kp hb3 c1)) (overA_mono s1 s2)
        unfold NatQ at hS
        rw [HKD.out] at hS
        have HSS := Lib.hid hS
        clear hS
        by_cases hK : K = 151
        · rw [if_pos hK] at hF
          subst hK
          have HF := Lib.hid hF; clear hF
          go_enter Try.func12, Try.ntmps12
          go_wp2_with fail
          refine (is_any _ _).mono ?_
          rintro en w2 ⟨rfl, rfl⟩
          rw [HS.out]
          go_wp2_with fail
          refine (is_any _ _).mono ?_
          rintro en w2 ⟨rfl, rfl⟩
          rw [HN.out]
          go_wp2_with fail
          refine HSS.out.mono ?_
          rintro en w4 ⟨rfl, hb4⟩
          go_wp2
          go_ret2
          exact ⟨by rw [HF.out]; rfl, bt w0b hb4⟩
        · rw [if_neg hK] at hF
          have hK2 : K ≤ 150 := by omega
          have HF := Lib.hid hF; clear hF hK hKb
          go_enter Try.func12, Try.ntmps12
          go_wp2_with fail
          refine (is_any _ _).mono ?_
          rintro en w2 ⟨rfl, rfl⟩
          rw [HS.out]
          go_wp2_with fail
          refine (is_any _ _).mono ?_
          rintro en w2 ⟨rfl, rfl⟩
          rw [HN.out]
          go_wp2_with fail
          refine HSS.out.mono ?_
          rintro en w4 ⟨rfl, hb4⟩
          go_wp2
          go_ret2
          exact ⟨by rw [HF.out]; rfl, bt w0b hb4⟩
    · have hn' : n < 1 ∨ 3652059 < n := by
        rcases Classical.em (1 ≤ n ∧ n ≤ 3652059) with h | h
        · exact absurd (isD_yes h.1 h.2) hn
        · omega
      rw [if_pos (by omega)] at hF
      have HF := Lib.hid hF; have HN := Lib.hid (isD_no hn'); clear hF hn hn'
      go_enter Try.func12, Try.ntmps12
      go_wp2_with fail
      refine (is_any _ _).mono ?_
      rintro en w2 ⟨rfl, rfl⟩
      rw [HS.out]
      go_wp2_with fail
      refine (is_any _ _).mono ?_
      rintro en w2 ⟨rfl, rfl⟩
      rw [HN.out]
      go_wp2
      go_ret2
      exact ⟨by rw [HF.out]; rfl, w0b⟩
  · have hs' : b < 1 ∨ 3652059 < b := by
      rcases Classical.em (1 ≤ b ∧ b ≤ 3652059) with h | h
      · exact absurd (isD_yes h.1 h.2) hs
      · omega
    rw [if_pos (by omega)] at hF
    have HF := Lib.hid hF; have HS := Lib.hid (isD_no hs'); clear hF hs hs'
    go_enter Try.func12, Try.ntmps12
    go_wp2_with fail
    refine (is_any _ _).mono ?_
    rintro en w2 ⟨rfl, rfl⟩
    rw [HS.out]
    go_wp2
    go_ret2
    exact ⟨by rw [HF.out]; rfl, w0b⟩
end Dt
end Go.Proofs.Ytalmjeigfhjhfaa
