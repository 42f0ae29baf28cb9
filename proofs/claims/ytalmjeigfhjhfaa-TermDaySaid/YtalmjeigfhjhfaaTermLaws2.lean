/- The statements on terms: years and weeks, the one term of a day. -/
import Derived.Test.YtalmjeigfhjhfaaTermBegun
set_option linter.unusedVariables false
namespace Go.Proofs.Ytalmjeigfhjhfaa
open Go.RowKit
namespace Dt
theorem years_eq {s n k : Int} (h1 : 1 ≤ n) (h2 : n ≤ 10) : nthF 4 n s k = nthF 3 (12 * n) s k := by
  have e : rawT 4 n s k = rawT 3 (12 * n) s k := by
    unfold rawT
    rw [if_neg (by decide), if_neg (by decide), if_pos rfl, if_neg (by decide), if_neg (by decide), if_neg (by decide), Int.mul_assoc]
  have c1 : tchk 4 n = 0 := by unfold tchk; rw [if_neg (by omega), if_neg (by omega)]
  have c2 : tchk 3 (12 * n) = 0 := by unfold tchk; rw [if_neg (by omega), if_neg (by omega)]
  unfold nthF; rw [c1, c2, e]
theorem weeks_eq {s n k : Int} (h1 : 1 ≤ n) (h2 : n ≤ 10) : nthF 2 n s k = nthF 1 (7 * n) s k := by
  have e : rawT 2 n s k = rawT 1 (7 * n) s k := by
    unfold rawT
    rw [if_neg (by decide), if_pos rfl, if_pos rfl, Int.mul_assoc]
  have c1 : tchk 2 n = 0 := by unfold tchk; rw [if_neg (by omega), if_neg (by omega)]
  have c2 : tchk 1 (7 * n) = 0 := by unfold tchk; rw [if_neg (by omega), if_neg (by omega)]
  unfold nthF; rw [c1, c2, e]
theorem weeks_add {s n k j c : Int} (h1 : 1 ≤ n) (h2 : n ≤ 10) (h : nthF 2 n s k = (c, 0)) (j1 : 0 ≤ j) (j2 : j ≤ 1000 - k) : nthF 2 n c j = nthF 2 n s (k + j) := by
  rcases nth_cases 2 n s k with ⟨_, g, hc⟩ | ⟨_, ⟨s1, s2, k1, k2⟩, hr, g⟩
  · rw [g] at h; injection h with _ h; omega
  · rw [g] at h; injection h with h _
    have hp := rawT_pos (u := 2) s1 s2 h1 k1
    have e : rawT 2 n c j = rawT 2 n s (k + j) := by
      rw [← h]
      unfold rawT
      rw [if_neg (by decide), if_pos rfl, if_neg (by decide), if_pos rfl, if_neg (by decide), if_pos rfl, Int.mul_add]
      omega
    have c1 : tchk 2 n = 0 := by unfold tchk; rw [if_neg (by omega), if_neg (by omega)]
    unfold nthF
    rw [c1, e]
    simp only [show ¬(c < 1 ∨ 3652059 < c ∨ j < 0 ∨ 1000 < j) by omega, show ¬(s < 1 ∨ 3652059 < s ∨ k + j < 0 ∨ 1000 < k + j) by omega, if_false]
theorem nth_k {u N s k c : Int} (h : nthF u N s k = (c, 0)) : 0 ≤ k ∧ k ≤ 1000 := by
  rcases nth_cases u N s k with ⟨_, g, hc⟩ | ⟨_, ⟨s1, s2, k1, k2⟩, hr, g⟩
  · rw [g] at h; injection h with _ h; omega
  · exact ⟨k1, k2⟩
set_option maxHeartbeats 1000000 in
theorem years_walk (s n k j : Int) (w : World) : Calls Try.prog 9 #[.int .i64 s, .int .i64 n, .int .i64 k, .int .i64 j] w fun e w' => e = .returned (.bool true) ∧ Below w.heap.size w w' := by
  rcases (show n < 1 ∨ (1 ≤ n ∧ 10 < n) ∨ (1 ≤ n ∧ n ≤ 10) by omega) with h | ⟨h1, h⟩ | ⟨h1, h⟩
  · go_enter Try.func9, Try.ntmps9

    go_wp2_with fail
    refine (tbegun_any _).mono ?_
    rintro en w1 ⟨rfl, hb_w1⟩
    have n_w1 := hb_w1
    have H_w1 := n_w1
    go_wp2
    go_ret
    exact ⟨rfl, H_w1⟩
  · go_enter Try.func9, Try.ntmps9

    go_wp2_with fail
    refine (tbegun_any _).mono ?_
    rintro en w1 ⟨rfl, hb_w1⟩
    have n_w1 := hb_w1
    have H_w1 := n_w1
    go_wp2
    go_ret
    exact ⟨rfl, H_w1⟩
  · obtain ⟨⟨a, e⟩, ha⟩ : ∃ p, nthF 3 (12 * n) s k = p := ⟨_, rfl⟩
    obtain ⟨⟨c, g⟩, hc⟩ : ∃ p, nthF 1 (7 * n) s k = p := ⟨_, rfl⟩
    have ha' := (years_eq (s := s) (k := k) h1 h).trans ha
    have hc' := (weeks_eq (s := s) (k := k) h1 h).trans hc
    have n1 := nth_any s 4 n k
    have n2 := nth_any s 3 (12 * n) k
    have n3 := nth_any s 2 n k
    have n4 := nth_any s 1 (7 * n) k
    rw [ha'] at n1; rw [ha] at n2; rw [hc'] at n3; rw [hc] at n4
    unfold PairQ aT at n1 n2 n3 n4
    have HC := Lib.hid hc'
    clear ha ha' hc hc'
    rcases (show g ≠ 0 ∨ (g = 0 ∧ j < 0) ∨ (g = 0 ∧ 0 ≤ j ∧ 1000 - k < j) ∨ (g = 0 ∧ 0 ≤ j ∧ j ≤ 1000 - k) by omega) with hg | ⟨rfl, hj⟩ | ⟨rfl, hj, hj'⟩ | ⟨rfl, hj, hj'⟩
    · have hb : (g != 0) = true := by simp [hg]
      go_enter Try.func9, Try.ntmps9

      go_wp2_with fail
      refine (tbegun_any _).mono ?_
      rintro en w1 ⟨rfl, hb_w1⟩
      have n_w1 := hb_w1
      have H_w1 := n_w1
      go_wp2_with fail
      refine (n1 _).mono ?_
      rintro en w2 ⟨rfl, hb_w2⟩
      have n_w2 := hb_w2
      have H_w2 := bt H_w1 n_w2
      go_wp2_with fail
      refine (monthsL_any _ _).mono ?_
      rintro en w3 ⟨rfl, hb_w3⟩
      have n_w3 := hb_w3
      have H_w3 := bt H_w2 n_w3
      go_wp2_with fail
      refine (n2 _).mono ?_
      rintro en w4 ⟨rfl, hb_w4⟩
      have n_w4 := hb_w4
      have H_w4 := bt H_w3 n_w4
      go_wp2_with fail
      refine (n3 _).mono ?_
      rintro en w5 ⟨rfl, hb_w5⟩
      have n_w5 := hb_w5
      have H_w5 := bt H_w4 n_w5
      go_wp2_with fail
      refine (n4 _).mono ?_
      rintro en w6 ⟨rfl, hb_w6⟩
      have n_w6 := hb_w6
      have H_w6 := bt H_w5 n_w6
      go_wp2
      go_ret
      exact ⟨rfl, H_w6⟩
    · have hk := nth_k HC.out
      have hk1 := hk.1; have hk2 := hk.2
      clear hk
      go_enter Try.func9, Try.ntmps9

      go_wp2_with fail
      refine (tbegun_any _).mono ?_
      rintro en w1 ⟨rfl, hb_w1⟩
      have n_w1 := hb_w1
      have H_w1 := n_w1
      go_wp2_with fail
      refine (n1 _).mono ?_
      rintro en w2 ⟨rfl, hb_w2⟩
      have n_w2 := hb_w2
      have H_w2 := bt H_w1 n_w2
      go_wp2_with fail
      refine (monthsL_any _ _).mono ?_
      rintro en w3 ⟨rfl, hb_w3⟩
      have n_w3 := hb_w3
      have H_w3 := bt H_w2 n_w3
      go_wp2_with fail
      refine (n2 _).mono ?_
      rintro en w4 ⟨rfl, hb_w4⟩
      have n_w4 := hb_w4
      have H_w4 := bt H_w3 n_w4
      go_wp2_with fail
      refine (n3 _).mono ?_
      rintro en w5 ⟨rfl, hb_w5⟩
      have n_w5 := hb_w5
      have H_w5 := bt H_w4 n_w5
      go_wp2_with fail
      refine (n4 _).mono ?_
      rintro en w6 ⟨rfl, hb_w6⟩
      have n_w6 := hb_w6
      have H_w6 := bt H_w5 n_w6
      go_wp2
      go_ret
      exact ⟨rfl, H_w6⟩
    · have hk := nth_k HC.out
      have hk1 := hk.1; have hk2 := hk.2
      clear hk
      go_enter Try.func9, Try.ntmps9

      go_wp2_with fail
      refine (tbegun_any _).mono ?_
      rintro en w1 ⟨rfl, hb_w1⟩
      have n_w1 := hb_w1
      have H_w1 := n_w1
      go_wp2_with fail
      refine (n1 _).mono ?_
      rintro en w2 ⟨rfl, hb_w2⟩
      have n_w2 := hb_w2
      have H_w2 := bt H_w1 n_w2
      go_wp2_with fail
      refine (monthsL_any _ _).mono ?_
      rintro en w3 ⟨rfl, hb_w3⟩
      have n_w3 := hb_w3
      have H_w3 := bt H_w2 n_w3
      go_wp2_with fail
      refine (n2 _).mono ?_
      rintro en w4 ⟨rfl, hb_w4⟩
      have n_w4 := hb_w4
      have H_w4 := bt H_w3 n_w4
      go_wp2_with fail
      refine (n3 _).mono ?_
      rintro en w5 ⟨rfl, hb_w5⟩
      have n_w5 := hb_w5
      have H_w5 := bt H_w4 n_w5
      go_wp2_with fail
      refine (n4 _).mono ?_
      rintro en w6 ⟨rfl, hb_w6⟩
      have n_w6 := hb_w6
      have H_w6 := bt H_w5 n_w6
      go_wp2
      go_ret
      exact ⟨rfl, H_w6⟩
    · have hk := nth_k HC.out
      have hk1 := hk.1; have hk2 := hk.2
      clear hk
      obtain ⟨⟨x, i⟩, hx⟩ : ∃ p, nthF 2 n s (k + j) = p := ⟨_, rfl⟩
      have hx' := (weeks_add h1 h HC.out hj hj').trans hx
      have n5 := nth_any c 2 n j
      have n6 := nth_any s 2 n (k + j)
      rw [hx'] at n5; rw [hx] at n6
      unfold PairQ aT at n5 n6
      clear hx hx'
      go_enter Try.func9, Try.ntmps9

      go_wp2_with fail
      refine (tbegun_any _).mono ?_
      rintro en w1 ⟨rfl, hb_w1⟩
      have n_w1 := hb_w1
      have H_w1 := n_w1
      go_wp2_with fail
      refine (n1 _).mono ?_
      rintro en w2 ⟨rfl, hb_w2⟩
      have n_w2 := hb_w2
      have H_w2 := bt H_w1 n_w2
      go_wp2_with fail
      refine (monthsL_any _ _).mono ?_
      rintro en w3 ⟨rfl, hb_w3⟩
      have n_w3 := hb_w3
      have H_w3 := bt H_w2 n_w3
      go_wp2_with fail
      refine (n2 _).mono ?_
      rintro en w4 ⟨rfl, hb_w4⟩
      have n_w4 := hb_w4
      have H_w4 := bt H_w3 n_w4
      go_wp2_with fail
      refine (n3 _).mono ?_
      rintro en w5 ⟨rfl, hb_w5⟩
      have n_w5 := hb_w5
      have H_w5 := bt H_w4 n_w5
      go_wp2_with fail
      refine (n4 _).mono ?_
      rintro en w6 ⟨rfl, hb_w6⟩
      have n_w6 := hb_w6
      have H_w6 := bt H_w5 n_w6
      go_wp2_with fail
      refine (n5 _).mono ?_
      rintro en w7 ⟨rfl, hb_w7⟩
      have n_w7 := hb_w7
      have H_w7 := bt H_w6 n_w7
      go_wp2_with fail
      refine (n6 _).mono ?_
      rintro en w8 ⟨rfl, hb_w8⟩
      have n_w8 := hb_w8
      have H_w8 := bt H_w7 n_w8
      go_wp2
      go_ret
      exact ⟨by first | rfl | (simp; done), H_w8⟩
theorem finds_core {u N s n k j a b x e f g h : Int} (h1 : findF u N s n = (k, e)) (h2 : nthF u N s k = (a, f)) (h3 : nthF u N s (k + 1) = (b, g)) (h4 : nthF u N s j = (x, h)) :
    (e ≠ 0 ∧ k = 0) ∨ (e = 0 ∧ 0 ≤ k ∧ k ≤ 1000 ∧ f = 0 ∧ a ≤ n ∧ (g = 0 → n < b) ∧ (h = 0 → ((x ≤ n ∧ j ≤ k) ∨ (n < x ∧ k < j)))) := by
  rcases find_cases u N s n with ⟨c, q, hc⟩ | ⟨m, ⟨u1, u2, n1, n2⟩, ⟨s1, s2, s3⟩, hm, q, r1, r2⟩
  · rw [q] at h1; injection h1 with h1 h1'; exact .inl ⟨by omega, h1.symm⟩
  · rw [q] at h1; injection h1 with h1 h1'
    subst h1; subst h1'
    refine .inr ⟨rfl, by omega, by omega, ?_⟩
    have hs : s ≤ 3652059 := by omega
    rcases nth_cases u N s m with ⟨c, q2, hc⟩ | ⟨_, _, hr, q2⟩
    · exfalso
      unfold nthF at q2
      have c1 : tchk u N = 0 := by unfold tchk; rw [if_neg (by omega), if_neg (by omega)]
      rw [c1, if_neg (by decide), if_neg (by omega), if_neg (by omega)] at q2
      injection q2 with _ q2; exact hc q2.symm
    · rw [q2] at h2; injection h2 with h2 h2'
      refine ⟨h2'.symm, by omega, fun hg => ?_, fun hh => ?_⟩
      · rcases nth_cases u N s (m + 1) with ⟨c, q3, hc⟩ | ⟨_, _, hr3, q3⟩
        · rw [q3] at h3; injection h3 with _ h3; omega
        · rw [q3] at h3; injection h3 with h3 _; omega
      · rcases nth_cases u N s j with ⟨c, q3, hc⟩ | ⟨_, ⟨_, _, j1, j2⟩, hr3, q3⟩
        · rw [q3] at h4; injection h4 with _ h4; omega
        · rw [q3] at h4; injection h4 with h4 _
          by_cases hjk : j ≤ m
          · have := rawT_mono (u := u) (Int.le_refl s) s1 hs n1 j1 hjk
            exact .inl ⟨by omega, hjk⟩
          · have := rawT_mono (u := u) (Int.le_refl s) s1 hs n1 (by omega : (0 : Int) ≤ (m : Int) + 1) (by omega : (m : Int) + 1 ≤ j)
            exact .inr ⟨by omega, by omega⟩
set_option maxHeartbeats 1000000 in
theorem finds_walk (s u N n j : Int) (w : World) : Calls Try.prog 11 #[.int .i64 s, aT u N, .int .i64 n, .int .i64 j] w fun e w' => e = .returned (.bool true) ∧ Below w.heap.size w w' := by
  obtain ⟨⟨k, e⟩, h1⟩ : ∃ p, findF u N s n = p := ⟨_, rfl⟩
  obtain ⟨⟨a, f⟩, h2⟩ : ∃ p, nthF u N s k = p := ⟨_, rfl⟩
  obtain ⟨⟨b, g⟩, h3⟩ : ∃ p, nthF u N s (k + 1) = p := ⟨_, rfl⟩
  obtain ⟨⟨x, h⟩, h4⟩ : ∃ p, nthF u N s j = p := ⟨_, rfl⟩
  have core := finds_core h1 h2 h3 h4
  have n1 := find_any s u N n
  have n2 := nth_any s u N k
  have n3 := nth_any s u N (k + 1)
  have n4 := nth_any s u N j
  rw [h1] at n1; rw [h2] at n2; rw [h3] at n3; rw [h4] at n4
  unfold PairQ aT at n1 n2 n3 n4
  clear h1 h2 h3 h4
  unfold aT
  rcases core with ⟨he, rfl⟩ | ⟨rfl, k1, k2, rfl, han, hg, hh⟩
  · have hb : (e != 0) = true := by simp [he]
    go_enter Try.func11, Try.ntmps11

    go_wp2_with fail
    refine (n1 _).mono ?_
    rintro en w1 ⟨rfl, hb_w1⟩
    have n_w1 := bt ((br _).alloc (Nat.le_refl _) _) hb_w1
    have H_w1 := n_w1
    have k_w1 := boxc (bx hb_w1)
    have l_w1 := boxs (bx hb_w1)
    go_wp2_with fail
    refine (tbegun_any _).mono ?_
    rintro en w2 ⟨rfl, hb_w2⟩
    have n_w2 := hb_w2
    have H_w2 := bt H_w1 n_w2
    have k_w1 := kc n_w2 l_w1 k_w1
    have l_w1 := kl n_w2 l_w1
    go_wp2
    go_ret
    exact ⟨by first | rfl | (simp; done), H_w2⟩
  · rcases (show (h ≠ 0 ∧ g ≠ 0) ∨ (h ≠ 0 ∧ g = 0) ∨ (h = 0 ∧ g ≠ 0) ∨ (h = 0 ∧ g = 0) by omega) with ⟨p1, p2⟩ | ⟨p1, rfl⟩ | ⟨rfl, p2⟩ | ⟨rfl, rfl⟩
    · have b1 : (h != 0) = true := by simp [p1]
      have b2 : (g == 0) = false := by simp [p2]
      clear hg hh
      go_enter Try.func11, Try.ntmps11

      go_wp2_with fail
      refine (n1 _).mono ?_
      rintro en w1 ⟨rfl, hb_w1⟩
      have n_w1 := bt ((br _).alloc (Nat.le_refl _) _) hb_w1
      have H_w1 := n_w1
      have k_w1 := boxc (bx hb_w1)
      have l_w1 := boxs (bx hb_w1)
      go_wp2_with fail
      refine (tbegun_any _).mono ?_
      rintro en w2 ⟨rfl, hb_w2⟩
      have n_w2 := hb_w2
      have H_w2 := bt H_w1 n_w2
      have k_w1 := kc n_w2 l_w1 k_w1
      have l_w1 := kl n_w2 l_w1
      go_wp2_with fail
      have d0 := k_w1 0; have d1 := k_w1 1
      simp only [List.getElem?_toArray, List.getElem?_cons_zero, List.getElem?_cons_succ] at d0 d1
      refine (n2 _).mono ?_
      rintro en w3 ⟨rfl, hb3⟩
      have d0 := kp hb3 d0; have d1 := kp hb3 d1
      go_wp2_with fail
      refine (n3 _).mono ?_
      rintro en w4 ⟨rfl, hb4⟩
      have d0 := kp hb4 d0; have d1 := kp hb4 d1
      go_wp2_with fail
      refine (n4 _).mono ?_
      rintro en w5 ⟨rfl, hb5⟩
      go_wp2
      go_ret
      exact ⟨by first | rfl | (simp; done) | (simp; omega), bt (bt (bt H_w2 hb3) hb4) hb5⟩
    · have b1 : (h != 0) = true := by simp [p1]
      have hg := hg rfl
      clear hh
      go_enter Try.func11, Try.ntmps11

      go_wp2_with fail
      refine (n1 _).mono ?_
      rintro en w1 ⟨rfl, hb_w1⟩
      have n_w1 := bt ((br _).alloc (Nat.le_refl _) _) hb_w1
      have H_w1 := n_w1
      have k_w1 := boxc (bx hb_w1)
      have l_w1 := boxs (bx hb_w1)
      go_wp2_with fail
      refine (tbegun_any _).mono ?_
      rintro en w2 ⟨rfl, hb_w2⟩
      have n_w2 := hb_w2
      have H_w2 := bt H_w1 n_w2
      have k_w1 := kc n_w2 l_w1 k_w1
      have l_w1 := kl n_w2 l_w1
      go_wp2_with fail
      have d0 := k_w1 0; have d1 := k_w1 1
      simp only [List.getElem?_toArray, List.getElem?_cons_zero, List.getElem?_cons_succ] at d0 d1
      refine (n2 _).mono ?_
      rintro en w3 ⟨rfl, hb3⟩
      have d0 := kp hb3 d0; have d1 := kp hb3 d1
      go_wp2_with fail
      refine (n3 _).mono ?_
      rintro en w4 ⟨rfl, hb4⟩
      have d0 := kp hb4 d0; have d1 := kp hb4 d1
      go_wp2_with fail
      refine (n4 _).mono ?_
      rintro en w5 ⟨rfl, hb5⟩
      go_wp2
      go_ret
      exact ⟨by first | rfl | (simp; done) | (simp; omega), bt (bt (bt H_w2 hb3) hb4) hb5⟩
    · have b2 : (g == 0) = false := by simp [p2]
      have hh := hh rfl
      clear hg
      rcases hh with ⟨q1, q2⟩ | ⟨q1, q2⟩
      all_goals
        go_enter Try.func11, Try.ntmps11

        go_wp2_with fail
        refine (n1 _).mono ?_
        rintro en w1 ⟨rfl, hb_w1⟩
        have n_w1 := bt ((br _).alloc (Nat.le_refl _) _) hb_w1
        have H_w1 := n_w1
        have k_w1 := boxc (bx hb_w1)
        have l_w1 := boxs (bx hb_w1)
        go_wp2_with fail
        refine (tbegun_any _).mono ?_
        rintro en w2 ⟨rfl, hb_w2⟩
        have n_w2 := hb_w2
        have H_w2 := bt H_w1 n_w2
        have k_w1 := kc n_w2 l_w1 k_w1
        have l_w1 := kl n_w2 l_w1
        go_wp2_with fail
        have d0 := k_w1 0; have d1 := k_w1 1
        simp only [List.getElem?_toArray, List.getElem?_cons_zero, List.getElem?_cons_succ] at d0 d1
        refine (n2 _).mono ?_
        rintro en w3 ⟨rfl, hb3⟩
        have d0 := kp hb3 d0; have d1 := kp hb3 d1
        go_wp2_with fail
        refine (n3 _).mono ?_
        rintro en w4 ⟨rfl, hb4⟩
        have d0 := kp hb4 d0; have d1 := kp hb4 d1
        go_wp2_with fail
        refine (n4 _).mono ?_
        rintro en w5 ⟨rfl, hb5⟩
        go_wp2
        go_ret
        exact ⟨by first | rfl | (simp; done) | (simp; omega), bt (bt (bt H_w2 hb3) hb4) hb5⟩
    · have hh := hh rfl
      have hg := hg rfl
      rcases hh with ⟨q1, q2⟩ | ⟨q1, q2⟩
      all_goals
        go_enter Try.func11, Try.ntmps11

        go_wp2_with fail
        refine (n1 _).mono ?_
        rintro en w1 ⟨rfl, hb_w1⟩
        have n_w1 := bt ((br _).alloc (Nat.le_refl _) _) hb_w1
        have H_w1 := n_w1
        have k_w1 := boxc (bx hb_w1)
        have l_w1 := boxs (bx hb_w1)
        go_wp2_with fail
        refine (tbegun_any _).mono ?_
        rintro en w2 ⟨rfl, hb_w2⟩
        have n_w2 := hb_w2
        have H_w2 := bt H_w1 n_w2
        have k_w1 := kc n_w2 l_w1 k_w1
        have l_w1 := kl n_w2 l_w1
        go_wp2_with fail
        have d0 := k_w1 0; have d1 := k_w1 1
        simp only [List.getElem?_toArray, List.getElem?_cons_zero, List.getElem?_cons_succ] at d0 d1
        refine (n2 _).mono ?_
        rintro en w3 ⟨rfl, hb3⟩
        have d0 := kp hb3 d0; have d1 := kp hb3 d1
        go_wp2_with fail
        refine (n3 _).mono ?_
        rintro en w4 ⟨rfl, hb4⟩
        have d0 := kp hb4 d0; have d1 := kp hb4 d1
        go_wp2_with fail
        refine (n4 _).mono ?_
        rintro en w5 ⟨rfl, hb5⟩
        go_wp2
        go_ret
        exact ⟨by first | rfl | (simp; done) | (simp; omega), bt (bt (bt H_w2 hb3) hb4) hb5⟩
end Dt
end Go.Proofs.Ytalmjeigfhjhfaa
