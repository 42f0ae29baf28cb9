/- Nobody is given back more than was paid. -/
import Derived.Test.YtogohocokmhjcaaRefund
set_option linter.unusedVariables false
namespace Go.Proofs.Ytogohocokmhjcaa
open Go.RowKit
namespace Cv
set_option maxHeartbeats 2000000 in
theorem rbegun_any (w : World) : Calls Try.prog 16 #[] w fun e w' => e = .returned (.bool true) ∧ Below w.heap.size w w' := by
  have E1 := Lib.hid (show refF 6000 offersL 9 500 = (2500, 0) by decide +kernel)
  have E2 := Lib.hid (show refF 2000 offersL 9 500 = (0, 0) by decide +kernel)
  have E3 := Lib.hid (show refF (-1) offersL 9 500 = (0, 3) by decide +kernel)
  have E4 := Lib.hid (show bestF offersL 9 = (3000, 0) by decide +kernel)
  go_enter Try.func16, Try.ntmps16
  go_wp2_with fail
  refine (offers_any _).mono ?_
  rintro en w1 ⟨v1, rfl, r1, hb1⟩
  have R1 := Lib.hid r1; clear r1
  go_wp2_with fail
  refine (of_any 6000 v1 offersL 9 500 _ R1.out).mono ?_
  rintro en w2 ⟨rfl, hb2⟩
  rw [E1.out]
  go_wp2_with fail
  refine (offers_any _).mono ?_
  rintro en w3 ⟨v3, rfl, r3, hb3⟩
  have R3 := Lib.hid r3; clear r3
  go_wp2_with fail
  refine (of_any 2000 v3 offersL 9 500 _ R3.out).mono ?_
  rintro en w4 ⟨rfl, hb4⟩
  rw [E2.out]
  go_wp2_with fail
  refine (offers_any _).mono ?_
  rintro en w5 ⟨v5, rfl, r5, hb5⟩
  have R5 := Lib.hid r5; clear r5
  go_wp2_with fail
  refine (of_any (-1) v5 offersL 9 500 _ R5.out).mono ?_
  rintro en w6 ⟨rfl, hb6⟩
  rw [E3.out]
  go_wp2_with fail
  refine (offers_any _).mono ?_
  rintro en w7 ⟨v7, rfl, r7, hb7⟩
  have R7 := Lib.hid r7; clear r7
  go_wp2_with fail
  refine (worth_any v7 offersL 9 _ R7.out).mono ?_
  rintro en w8 ⟨rfl, hb8⟩
  rw [E4.out]
  go_wp2
  go_ret
  exact ⟨by first | rfl | simp, bt (bt (bt (bt (bt (bt (bt hb1 hb2) hb3) hb4) hb5) hb6) hb7) hb8⟩
theorem ref_cases (p : Int) (l : List Offer) (d f : Int) : (∃ c : Int, refF p l d f = (0, c) ∧ (c != 0) = true) ∨
    (okP p ∧ okP f ∧ ∃ B N : Int, bestF l d = (B, 0) ∧ 0 ≤ B ∧ B ≤ 400000000 ∧ refF p l d f = (N, 0) ∧ 0 ≤ N ∧ N ≤ p ∧ (N = 0 ∧ p ≤ B + f ∨ 0 < N ∧ N = p - B - f)) := by
  unfold refF
  by_cases h : okP p ∧ okP f
  · rw [if_neg (fun x => x h)]
    by_cases h2 : (bestF l d).2 = 0
    · rw [if_neg (fun x => x h2)]
      have hb := bestF_bd l d
      refine .inr ⟨h.1, h.2, (bestF l d).1, _, by rw [← h2], hb.1, hb.2, rfl, ?_⟩
      obtain ⟨⟨_, _⟩, _, _⟩ := h
      split <;> omega
    · rw [if_pos h2]
      exact .inl ⟨_, rfl, by simp [h2]⟩
  · rw [if_pos h]; exact .inl ⟨3, rfl, rfl⟩
theorem bestF_mono (l : List Offer) (a b A B : Int) (h : a ≤ b) (ha : bestF l a = (A, 0)) (hb : bestF l b = (B, 0)) : A ≤ B := by
  have key : ∀ d D : Int, bestF l d = (D, 0) → readyF l d = 0 ∧ D = best l d.toNat := fun d D hd => by
    unfold bestF at hd
    by_cases hr : readyF l d = 0
    · rw [if_neg (fun x => x hr)] at hd; injection hd with e1 _; exact ⟨hr, e1.symm⟩
    · rw [if_pos hr] at hd; injection hd with _ e2; exact absurd e2 hr
  obtain ⟨r1, rfl⟩ := key a A ha
  obtain ⟨r2, rfl⟩ := key b B hb
  obtain ⟨hc, n, rfl, hn⟩ := ready_ok r1
  obtain ⟨_, m, rfl, hm⟩ := ready_ok r2
  exact best_mono (check_ok hc).2 n m (by omega) (by omega)
set_option maxHeartbeats 2000000 in
theorem falls_walk (paid : Int) (v : Value) (xs : List Offer) (used fee more other : Int) (w : World) (h : Rd 2 eO w v xs) :
    Calls Try.prog 4 #[.int .i64 paid, v, .int .i64 used, .int .i64 fee, .int .i64 more, .int .i64 other] w fun e w' => e = .returned (.bool true) ∧ Below w.heap.size w w' := by
  have H := Lib.hid h
  obtain ⟨a, cap, rfl, h1, h2, h3⟩ := h
  clear h3
  rcases ref_cases paid xs used fee with ⟨c, he, hc⟩ | ⟨⟨p0, p1⟩, ⟨f0, f1⟩, B, N, hB, b0, b1, hN, n0, n1, hcase⟩
  · have HE := Lib.hid he; clear he
    go_enter Try.func4, Try.ntmps4
    go_wp2_with fail
    refine (of_any paid _ xs used fee _ H.out).mono ?_
    rintro en w1 ⟨rfl, hb1⟩
    rw [HE.out]
    go_wp2_with fail
    refine (rbegun_any _).mono ?_
    rintro en w2 ⟨rfl, hb2⟩
    go_wp2
    go_ret
    exact ⟨by first | rfl | simp, bt hb1 hb2⟩
  · have HB := Lib.hid hB; have HN := Lib.hid hN
    have hmore := ref_cases paid xs more fee
    have hother := ref_cases other xs used fee
    have hM : (∃ c : Int, refF paid xs more fee = (0, c) ∧ (c != 0) = true) ∨ ∃ M : Int, refF paid xs more fee = (M, 0) ∧ (more < used ∨ (used ≤ more ∧ M ≤ N)) := by
      rcases hmore with hx | ⟨_, _, B2, M, hB2, _, _, hM, m0, _, hc2⟩
      · exact .inl hx
      · refine .inr ⟨M, hM, ?_⟩
        by_cases hlt : more < used
        · exact .inl hlt
        · have := bestF_mono xs used more B B2 (by omega) hB hB2
          exact .inr ⟨by omega, by omega⟩
    have hK : (∃ c : Int, refF other xs used fee = (0, c) ∧ (c != 0) = true) ∨ ∃ K : Int, refF other xs used fee = (K, 0) ∧ (other < paid ∨ (paid ≤ other ∧ N ≤ K)) := by
      rcases hother with hx | ⟨_, _, B2, M, hB2, _, _, hM, m0, _, hc2⟩
      · exact .inl hx
      · refine .inr ⟨M, hM, ?_⟩
        by_cases hlt : other < paid
        · exact .inl hlt
        · have hbe : B2 = B := by rw [hB] at hB2; injection hB2 with e _; exact e.symm
          exact .inr ⟨by omega, by omega⟩
    clear hmore hother hB hN
    have hsum : N = 0 ∨ (N + B + fee != paid) = false := by
      rcases hcase with ⟨e, _⟩ | ⟨_, e⟩
      · exact .inl e
      · exact .inr (by simp; omega)
    rcases hcase with ⟨rfl, hle⟩ | ⟨hpos, hNe⟩
    case' inr => replace hsum := hsum.resolve_left (by omega); clear hNe
    case' inl => clear hsum
    all_goals
      rcases hM with ⟨c1, he1, hc1⟩ | ⟨M, he1, hc1⟩
      all_goals
        rcases hK with ⟨c2, he2, hc2⟩ | ⟨K, he2, hc2⟩
        all_goals
          have HE1 := Lib.hid he1; have HE2 := Lib.hid he2
          clear he1 he2
          go_enter Try.func4, Try.ntmps4
          go_wp2_with fail
          refine (of_any paid _ xs used fee _ H.out).mono ?_
          rintro en w1 ⟨rfl, hb1⟩
          rw [HN.out]
          have R1 := Lib.hid (H.out.below hb1)
          go_wp2_with fail
          refine (rbegun_any _).mono ?_
          rintro en w2 ⟨rfl, hb2⟩
          have R2 := Lib.hid (R1.out.below hb2)
          go_wp2_with fail
          refine (worth_any _ xs used _ R2.out).mono ?_
          rintro en w3 ⟨rfl, hb3⟩
          rw [HB.out]
          have R3 := Lib.hid (R2.out.below hb3)
          go_wp2_with fail
          refine (of_any paid _ xs more fee _ R3.out).mono ?_
          rintro en w4 ⟨rfl, hb4⟩
          rw [HE1.out]
          have R4 := Lib.hid (R3.out.below hb4)
          go_wp2_with fail
          refine (of_any other _ xs used fee _ R4.out).mono ?_
          rintro en w5 ⟨rfl, hb5⟩
          rw [HE2.out]
          go_wp2
          all_goals
            go_ret
            exact ⟨by first | rfl | (simp; done) | (simp; omega), bt (bt (bt (bt hb1 hb2) hb3) hb4) hb5⟩
end Cv
end Go.Proofs.Ytogohocokmhjcaa
