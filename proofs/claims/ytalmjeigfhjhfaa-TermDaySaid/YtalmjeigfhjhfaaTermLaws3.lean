/- The statements on terms: the day of a month's term. -/
import Derived.Test.YtalmjeigfhjhfaaTermLaws2
import Derived.Test.YtalmjeigfhjhfaaTermRef
set_option linter.unusedVariables false
namespace Go.Proofs.Ytalmjeigfhjhfaa
open Go.RowKit
namespace Dt
/-- the month's parts of a day -/
theorem day_core {n s k a e : Int} (h : nthF 3 n s k = (a, e)) : (e ≠ 0 ∧ a = 0) ∨ (e = 0 ∧ ∃ y0 m0 d0 y1 m1 d1 P : Int, n * k = P ∧ 0 ≤ P ∧ P ≤ 120120 ∧ ofF s = ((y0, m0, d0), 0) ∧ ofF a = ((y1, m1, d1), 0) ∧ 1 ≤ y0 ∧ y0 ≤ 9999 ∧ 1 ≤ m0 ∧ m0 ≤ 12 ∧ 1 ≤ y1 ∧ y1 ≤ 9999 ∧ 1 ≤ m1 ∧ m1 ≤ 12 ∧
    12 * y1 + m1 = 12 * y0 + m0 + P ∧ (d1 = d0 ∨ (d1 < d0 ∧ d1 = len0 y1 m1))) := by
  rcases nth_cases 3 n s k with ⟨c, q, hc⟩ | ⟨⟨u1, u2, n1, n2⟩, ⟨s1, s2, k1, k2⟩, hr, q⟩
  · rw [q] at h; injection h with h h'; exact .inl ⟨by omega, h.symm⟩
  · rw [q] at h; injection h with h h'
    have m0 := mul_bd n1 n2 k1 (by omega : k ≤ 1001)
    obtain ⟨a1, a2, a3, a4, a5⟩ := mo_spec s1 s2
    have hx : rawT 3 n s k = monthsF s (n * k) := by
      unfold rawT; rw [if_neg (by decide), if_neg (by decide), if_neg (by decide)]
    obtain ⟨P, hP⟩ : ∃ P, n * k = P := ⟨_, rfl⟩
    rw [hP] at m0 hx
    have hl := L_bd (mo s + P)
    rcases months_cases s1 s2 m0.1 with ⟨g1, g2⟩ | ⟨g1, g2⟩
    · have hd := dayAt_date (by omega : 12 ≤ mo s + P) g1 a3
      have hb := dayAt_bd (by omega : 12 ≤ mo s + P) g1 a3
      have hs : dateOf s = (mo s / 12, mo s % 12 + 1, dm s) := by
        obtain ⟨v, _⟩ := dateOf_spec s s1 s2
        have b3 := v.m1; have b4 := v.m2
        have e1 : mo s / 12 = (dateOf s).1 := by unfold mo; omega
        have e2 : mo s % 12 + 1 = (dateOf s).2.1 := by unfold mo; omega
        rw [e1, e2]; rfl
      have ha : a = dayAt (mo s + P) (dm s) := by rw [← h, hx]; rfl
      rw [← ha] at hd hb
      refine .inr ⟨h'.symm, mo s / 12, mo s % 12 + 1, dm s, (mo s + P) / 12, (mo s + P) % 12 + 1, min (dm s) (L (mo s + P)), P, hP, m0.1, m0.2.1, ?_, ?_, by omega, by omega, by omega, by omega, by omega, by omega, by omega, by omega, by omega, ?_⟩
      · unfold ofF; rw [if_pos ⟨s1, s2⟩, hs]
      · unfold ofF; rw [if_pos hb, hd]
      · have e : L (mo s + P) = len0 ((mo s + P) / 12) ((mo s + P) % 12 + 1) := by
          unfold L; rw [len0, if_pos (by omega)]
        rw [← e]; omega
    · exfalso; rw [hx] at hr; omega
set_option maxHeartbeats 2000000 in
theorem day_walk (s n k : Int) (w : World) : Calls Try.prog 10 #[.int .i64 s, .int .i64 n, .int .i64 k] w fun e w' => e = .returned (.bool true) ∧ Below w.heap.size w w' := by
  obtain ⟨⟨a, e⟩, h1⟩ : ∃ p, nthF 3 n s k = p := ⟨_, rfl⟩
  have core := day_core h1
  have n1 := nth_any s 3 n k
  rw [h1] at n1
  unfold PairQ aT at n1
  clear h1
  rcases core with ⟨he, rfl⟩ | ⟨rfl, y0, m0, d0, y1, m1, d1, P, hP, p1, p2, o1, o2, q1, q2, q3, q4, q5, q6, q7, q8, heq, hd⟩
  · have hb : (e != 0) = true := by simp [he]
    go_enter Try.func10, Try.ntmps10

    go_wp2_with fail
    refine (monthsL_any _ _).mono ?_
    rintro en w1 ⟨rfl, hb_w1⟩
    have n_w1 := hb_w1
    have H_w1 := n_w1
    go_wp2_with fail
    refine (n1 _).mono ?_
    rintro en w2 ⟨rfl, hb_w2⟩
    have n_w2 := hb_w2
    have H_w2 := bt H_w1 n_w2
    go_wp2_with fail
    refine (tbegun_any _).mono ?_
    rintro en w3 ⟨rfl, hb_w3⟩
    have n_w3 := hb_w3
    have H_w3 := bt H_w2 n_w3
    go_wp2
    go_ret
    exact ⟨by first | rfl | (simp; done), H_w3⟩
  · have O1 := Lib.hid o1; have O2 := Lib.hid o2
    clear o1 o2
    have t1 : (12 * y1 + m1 == 12 * y0 + m0 + P) = true := by simp [heq]
    have x1 : IntKind.i64.wrap (12 * y1) = 12 * y1 := IntWalk.i64_in _ (by omega)
    have x2 : IntKind.i64.wrap (12 * y1 + m1) = 12 * y1 + m1 := IntWalk.i64_in _ (by omega)
    have x3 : IntKind.i64.wrap (12 * y0) = 12 * y0 := IntWalk.i64_in _ (by omega)
    have x4 : IntKind.i64.wrap (12 * y0 + m0) = 12 * y0 + m0 := IntWalk.i64_in _ (by omega)
    have x5 : IntKind.i64.wrap (n * k) = P := by rw [hP]; exact IntWalk.i64_in _ (by omega)
    have x6 : IntKind.i64.wrap (12 * y0 + m0 + P) = 12 * y0 + m0 + P := IntWalk.i64_in _ (by omega)
    clear heq hP
    rcases hd with rfl | ⟨hd, hl⟩
    · have t2 : (d1 == d1) = true := by simp
      go_enter Try.func10, Try.ntmps10

      go_wp2_with fail
      refine (monthsL_any _ _).mono ?_
      rintro en w1 ⟨rfl, hb_w1⟩
      have n_w1 := hb_w1
      have H_w1 := n_w1
      go_wp2_with fail
      refine (n1 _).mono ?_
      rintro en w2 ⟨rfl, hb_w2⟩
      have n_w2 := hb_w2
      have H_w2 := bt H_w1 n_w2
      go_wp2_with fail
      refine (tbegun_any _).mono ?_
      rintro en w3 ⟨rfl, hb_w3⟩
      have n_w3 := hb_w3
      have H_w3 := bt H_w2 n_w3
      go_wp2_with fail
      refine (of_any _ _).mono ?_
      rintro en w4 ⟨rfl, hb_w4⟩
      rw [O1.out]; simp only [aD]
      have n_w4 := hb_w4
      have H_w4 := bt H_w3 n_w4
      go_wp2_with fail
      refine (of_any _ _).mono ?_
      rintro en w5 ⟨rfl, hb_w5⟩
      rw [O2.out]; simp only [aD]
      have n_w5 := bt ((br _).alloc (Nat.le_refl _) _) hb_w5
      have H_w5 := bt H_w4 n_w5
      have k_w5 := boxc (bx hb_w5)
      have l_w5 := boxs (bx hb_w5)
      go_wp2_with fail
      have c10 := k_w5 0; have c11 := k_w5 1; have c12 := k_w5 2
      simp only [List.getElem?_toArray, List.getElem?_cons_zero, List.getElem?_cons_succ] at c10 c11 c12
      go_quiet ((go_at_call 33; exact qz (monthDays_any _ _ _)))
      go_wp2
      go_ret
      exact ⟨by first | rfl | (simp; done), by first | exact H_w5 | exact bn H_w5 _ | exact bn (H_w5.alloc H_w5.size _) _⟩
    · have t2 : (d1 == d0) = false := by simp; omega
      have t3 : (d1 == len0 y1 m1) = true := by simp [hl]
      have HL := Lib.hid hl
      clear hl
      go_enter Try.func10, Try.ntmps10

      go_wp2_with fail
      refine (monthsL_any _ _).mono ?_
      rintro en w1 ⟨rfl, hb_w1⟩
      have n_w1 := hb_w1
      have H_w1 := n_w1
      go_wp2_with fail
      refine (n1 _).mono ?_
      rintro en w2 ⟨rfl, hb_w2⟩
      have n_w2 := hb_w2
      have H_w2 := bt H_w1 n_w2
      go_wp2_with fail
      refine (tbegun_any _).mono ?_
      rintro en w3 ⟨rfl, hb_w3⟩
      have n_w3 := hb_w3
      have H_w3 := bt H_w2 n_w3
      go_wp2_with fail
      refine (of_any _ _).mono ?_
      rintro en w4 ⟨rfl, hb_w4⟩
      rw [O1.out]; simp only [aD]
      have n_w4 := hb_w4
      have H_w4 := bt H_w3 n_w4
      go_wp2_with fail
      refine (of_any _ _).mono ?_
      rintro en w5 ⟨rfl, hb_w5⟩
      rw [O2.out]; simp only [aD]
      have n_w5 := bt ((br _).alloc (Nat.le_refl _) _) hb_w5
      have H_w5 := bt H_w4 n_w5
      have k_w5 := boxc (bx hb_w5)
      have l_w5 := boxs (bx hb_w5)
      go_wp2_with fail
      have c10 := k_w5 0; have c11 := k_w5 1; have c12 := k_w5 2
      simp only [List.getElem?_toArray, List.getElem?_cons_zero, List.getElem?_cons_succ] at c10 c11 c12
      go_quiet ((go_at_call 33; exact qz (monthDays_any _ _ _)))
      go_wp2
      go_ret
      exact ⟨by first | rfl | (simp; done), by first | exact H_w5 | exact bn H_w5 _ | exact bn (H_w5.alloc H_w5.size _) _⟩
end Dt
end Go.Proofs.Ytalmjeigfhjhfaa
