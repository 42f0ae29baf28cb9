/- The statements on ages: who was born later is no older; the days on which one is a year older. -/
import Derived.Test.YtalmjeigfhjhfaaPersonBegun
set_option linter.unusedVariables false
namespace Go.Proofs.Ytalmjeigfhjhfaa
open Go.RowKit
namespace Dt
theorem order_core {a b n m x y e f : Int} (h1 : ageF a n = (x, e)) (h2 : ageF b m = (y, f)) (e0 : e = 0) (f0 : f = 0) (hab : b ≤ a) (hnm : n ≤ m) : x ≤ y := by
  rcases age_cases a n with ⟨c, g, hc, _⟩ | ⟨k, ⟨s1, s2, s3⟩, hk, g, g1, g2⟩
  · rw [g] at h1; injection h1 with _ h; omega
  · rcases age_cases b m with ⟨c, g', hc, _⟩ | ⟨j, ⟨t1, t2, t3⟩, hj, g', g1', g2'⟩
    · rw [g'] at h2; injection h2 with _ h; omega
    · rw [g] at h1; rw [g'] at h2
      injection h1 with h1 _; injection h2 with h2 _
      subst h1; subst h2
      by_cases hjk : (k : Int) ≤ j
      · exact hjk
      · have := tn_mono hab t1 (by omega) (by omega : (0 : Int) ≤ (j : Int) + 1) (by omega : (j : Int) + 1 ≤ k)
        omega
theorem turns_core {b n a : Int} (h : ageF b n = (a, 0)) (hn : b < n) : 0 ≤ a ∧ a ≤ 150 ∧ ∃ B T : Int, ageF b (n - 1) = (B, 0) ∧ turnsF b a = (T, 0) ∧ 0 ≤ B ∧ B ≤ 150 ∧ ((a = B + 1 ∧ T = n) ∨ (a = B ∧ T < n)) := by
  rcases age_cases b n with ⟨c, g, hc, _⟩ | ⟨k, ⟨s1, s2, s3⟩, hk, g, g1, g2⟩
  · rw [g] at h; injection h with _ h; omega
  · rw [g] at h; injection h with h _
    subst h
    refine ⟨by omega, by omega, ?_⟩
    have hT : turnsF b k = (tn b k, 0) := by unfold turnsF; rw [if_neg (by omega), if_neg (by omega)]
    by_cases e : tn b k = n
    · obtain ⟨j, rfl⟩ : ∃ j, k = j + 1 := by
        rcases k with _ | j
        · rw [show ((0 : Nat) : Int) = 0 from rfl, tn_zero s1 (by omega)] at e; omega
        · exact ⟨j, rfl⟩
      have e2 : ((j + 1 : Nat) : Int) = (j : Int) + 1 := by omega
      have hlt := tn_lt (Int.le_refl b) s1 (by omega) (by omega : (0 : Int) ≤ j) (by omega : (j : Int) < ((j + 1 : Nat) : Int)) (by omega)
      have hB : ageF b (n - 1) = ((j : Int), 0) := age_eq s1 (by omega) (by omega) (by omega) (by omega) (by rw [← e2, e]; omega)
      exact ⟨_, _, hB, hT, by omega, by omega, .inl ⟨by omega, e⟩⟩
    · have hB : ageF b (n - 1) = ((k : Int), 0) := age_eq s1 (by omega) (by omega) hk (by omega) (by omega)
      exact ⟨_, _, hB, hT, by omega, by omega, .inr ⟨rfl, by omega⟩⟩
theorem turns_core2 {b a t f : Int} (h : turnsF b a = (t, f)) : (f ≠ 0 ∧ t = 0) ∨ (f = 0 ∧ ageF b t = (a, 0)) := by
  rcases turns_cases b a with ⟨c, g, hc⟩ | ⟨⟨s1, s2, a0, a1⟩, ht, g⟩
  · rw [g] at h; injection h with h h'; exact .inl ⟨by omega, h.symm⟩
  · rw [g] at h; injection h with h h'
    subst h
    have hb := tn_bd s1 s2 a0
    refine .inr ⟨h'.symm, ?_⟩
    have := age_eq (b := b) (n := tn b a) (k := a.toNat) s1 hb.1 ht (by omega) (by rw [Int.toNat_of_nonneg a0]; omega) (by
      rw [Int.toNat_of_nonneg a0]
      by_cases hv : tn b (a + 1) ≤ 3652059
      · exact tn_lt (Int.le_refl b) s1 s2 a0 (by omega) hv
      · omega)
    rw [this, Int.toNat_of_nonneg a0]
set_option maxHeartbeats 1000000 in
theorem order_walk (a b n m : Int) (w : World) : Calls Try.prog 5 #[.int .i64 a, .int .i64 b, .int .i64 n, .int .i64 m] w fun e w' => e = .returned (.bool true) ∧ Below w.heap.size w w' := by
  obtain ⟨⟨x, e⟩, h1⟩ : ∃ p, ageF a n = p := ⟨_, rfl⟩
  obtain ⟨⟨y, f⟩, h2⟩ : ∃ p, ageF b m = p := ⟨_, rfl⟩
  have core := @order_core a b n m x y e f h1 h2
  have n1 := age_any a n
  have n2 := age_any b m
  rw [h1] at n1; rw [h2] at n2
  unfold PairQ at n1 n2
  clear h1 h2
  rcases (show e ≠ 0 ∨ (e = 0 ∧ f ≠ 0) ∨ (e = 0 ∧ f = 0 ∧ a < b) ∨ (e = 0 ∧ f = 0 ∧ b ≤ a ∧ m < n) ∨ (e = 0 ∧ f = 0 ∧ b ≤ a ∧ n ≤ m) by omega) with h | ⟨rfl, h⟩ | ⟨rfl, rfl, h⟩ | ⟨rfl, rfl, h, h'⟩ | ⟨rfl, rfl, h, h'⟩
  case' inl => have hb : (e != 0) = true := by simp [h]
  case' inr.inl => have hb : (f != 0) = true := by simp [h]
  case' inr.inr.inr.inr => have hx := core rfl rfl h h'
  all_goals
    clear core
    go_enter Try.func5, Try.ntmps5

    go_wp2_with fail
    refine (n1 _).mono ?_
    rintro en w1 ⟨rfl, hb_w1⟩
    have n_w1 := hb_w1
    have H_w1 := n_w1
    go_wp2_with fail
    refine (n2 _).mono ?_
    rintro en w2 ⟨rfl, hb_w2⟩
    have n_w2 := hb_w2
    have H_w2 := bt H_w1 n_w2
    go_wp2_with fail
    refine (pbegun_any _).mono ?_
    rintro en w3 ⟨rfl, hb_w3⟩
    have n_w3 := hb_w3
    have H_w3 := bt H_w2 n_w3
    go_wp2
    go_ret
    exact ⟨by first | rfl | (simp; done) | simp_all, H_w3⟩
set_option maxHeartbeats 2000000 in
theorem turns_walk (b n age : Int) (w : World) : Calls Try.prog 4 #[.int .i64 b, .int .i64 n, .int .i64 age] w fun e w' => e = .returned (.bool true) ∧ Below w.heap.size w w' := by
  obtain ⟨⟨a, e⟩, h1⟩ : ∃ p, ageF b n = p := ⟨_, rfl⟩
  obtain ⟨⟨t, f⟩, h2⟩ : ∃ p, turnsF b age = p := ⟨_, rfl⟩
  have n1 := age_any b n
  have n2 := turns_any b age
  have core2 := turns_core2 h2
  rw [h1] at n1; rw [h2] at n2
  unfold PairQ at n1 n2
  rcases (show e ≠ 0 ∨ (e = 0 ∧ n ≤ b) ∨ (e = 0 ∧ b < n) by omega) with h | ⟨rfl, h⟩ | ⟨rfl, h⟩
  · have hb : (e == 0) = false := by simp [h]
    clear h1 h2
    rcases core2 with ⟨hf, rfl⟩ | ⟨rfl, h3⟩
    · have hfb : (f != 0) = true := by simp [hf]
      go_enter Try.func4, Try.ntmps4

      go_wp2_with fail
      refine (n1 _).mono ?_
      rintro en w1 ⟨rfl, hb_w1⟩
      have n_w1 := hb_w1
      have H_w1 := n_w1
      go_wp2_with fail
      refine (pbegun_any _).mono ?_
      rintro en w2 ⟨rfl, hb_w2⟩
      have n_w2 := hb_w2
      have H_w2 := bt H_w1 n_w2
      go_wp2_with fail
      refine (n2 _).mono ?_
      rintro en w5 ⟨rfl, hb_w5⟩
      have n_w5 := hb_w5
      have H_w5 := bt H_w2 n_w5
      go_wp2
      go_ret
      exact ⟨by first | rfl | (simp; done) | simp_all, H_w5⟩
    · have n5 := age_any b t
      rw [h3] at n5
      unfold PairQ at n5
      have hq : (age == age) = true := by simp
      go_enter Try.func4, Try.ntmps4

      go_wp2_with fail
      refine (n1 _).mono ?_
      rintro en w1 ⟨rfl, hb_w1⟩
      have n_w1 := hb_w1
      have H_w1 := n_w1
      go_wp2_with fail
      refine (pbegun_any _).mono ?_
      rintro en w2 ⟨rfl, hb_w2⟩
      have n_w2 := hb_w2
      have H_w2 := bt H_w1 n_w2
      go_wp2_with fail
      refine (n2 _).mono ?_
      rintro en w5 ⟨rfl, hb_w5⟩
      have n_w5 := hb_w5
      have H_w5 := bt H_w2 n_w5
      go_wp2_with fail
      refine (n5 _).mono ?_
      rintro en w6 ⟨rfl, hb_w6⟩
      have n_w6 := hb_w6
      have H_w6 := bt H_w5 n_w6
      go_wp2
      go_ret
      exact ⟨by first | rfl | (simp; done) | simp_all, H_w6⟩
  · clear h1 h2
    rcases core2 with ⟨hf, rfl⟩ | ⟨rfl, h3⟩
    · have hfb : (f != 0) = true := by simp [hf]
      go_enter Try.func4, Try.ntmps4

      go_wp2_with fail
      refine (n1 _).mono ?_
      rintro en w1 ⟨rfl, hb_w1⟩
      have n_w1 := hb_w1
      have H_w1 := n_w1
      go_wp2_with fail
      refine (pbegun_any _).mono ?_
      rintro en w2 ⟨rfl, hb_w2⟩
      have n_w2 := hb_w2
      have H_w2 := bt H_w1 n_w2
      go_wp2_with fail
      refine (n2 _).mono ?_
      rintro en w5 ⟨rfl, hb_w5⟩
      have n_w5 := hb_w5
      have H_w5 := bt H_w2 n_w5
      go_wp2
      go_ret
      exact ⟨by first | rfl | (simp; done) | simp_all, H_w5⟩
    · have n5 := age_any b t
      rw [h3] at n5
      unfold PairQ at n5
      have hq : (age == age) = true := by simp
      go_enter Try.func4, Try.ntmps4

      go_wp2_with fail
      refine (n1 _).mono ?_
      rintro en w1 ⟨rfl, hb_w1⟩
      have n_w1 := hb_w1
      have H_w1 := n_w1
      go_wp2_with fail
      refine (pbegun_any _).mono ?_
      rintro en w2 ⟨rfl, hb_w2⟩
      have n_w2 := hb_w2
      have H_w2 := bt H_w1 n_w2
      go_wp2_with fail
      refine (n2 _).mono ?_
      rintro en w5 ⟨rfl, hb_w5⟩
      have n_w5 := hb_w5
      have H_w5 := bt H_w2 n_w5
      go_wp2_with fail
      refine (n5 _).mono ?_
      rintro en w6 ⟨rfl, hb_w6⟩
      have n_w6 := hb_w6
      have H_w6 := bt H_w5 n_w6
      go_wp2
      go_ret
      exact ⟨by first | rfl | (simp; done) | simp_all, H_w6⟩
  · obtain ⟨a0, a1, B, T, hB, hT, B0, B1, hc⟩ := turns_core h1 h
    have n3 := age_any b (n - 1)
    have n4 := turns_any b a
    rw [hB] at n3; rw [hT] at n4
    unfold PairQ at n3 n4
    have hnb : 1 ≤ b ∧ n ≤ 3652059 := by
      rcases age_cases b n with ⟨c, g, hc, _⟩ | ⟨k, ⟨s1, s2, s3⟩, hk, g, g1, g2⟩
      · rw [g] at h1; injection h1 with _ h; omega
      · exact ⟨s1, s3⟩
    have hn1 := hnb.1; have hn2 := hnb.2
    clear h1 h2 hB hT hnb
    rcases hc with ⟨rfl, rfl⟩ | ⟨rfl, hT⟩
    · have q1 : (B + 1 == B + 1) = true := by simp
      have q2 : (T == T) = true := by simp
      have q3 : (B + 1 == B) = false := by simp; omega
      have q4 : (B + 1 != B) = true := by simp; omega
      have q5 : (B + 1 != B + 1) = false := by simp
      rcases core2 with ⟨hf, rfl⟩ | ⟨rfl, h3⟩
      · have hfb : (f != 0) = true := by simp [hf]
        go_enter Try.func4, Try.ntmps4

        go_wp2_with fail
        refine (n1 _).mono ?_
        rintro en w1 ⟨rfl, hb_w1⟩
        have n_w1 := hb_w1
        have H_w1 := n_w1
        go_wp2_with fail
        refine (pbegun_any _).mono ?_
        rintro en w2 ⟨rfl, hb_w2⟩
        have n_w2 := hb_w2
        have H_w2 := bt H_w1 n_w2
        go_wp2_with fail
        refine (n3 _).mono ?_
        rintro en w3 ⟨rfl, hb_w3⟩
        have n_w3 := hb_w3
        have H_w3 := bt H_w2 n_w3
        go_wp2_with fail
        refine (n4 _).mono ?_
        rintro en w4 ⟨rfl, hb_w4⟩
        have n_w4 := hb_w4
        have H_w4 := bt H_w3 n_w4
        go_wp2_with fail
        refine (n2 _).mono ?_
        rintro en w5 ⟨rfl, hb_w5⟩
        have n_w5 := hb_w5
        have H_w5 := bt H_w4 n_w5
        go_wp2
        go_ret
        exact ⟨by first | rfl | (simp; done) | simp_all, H_w5⟩
      · have n5 := age_any b t
        rw [h3] at n5
        unfold PairQ at n5
        have hq : (age == age) = true := by simp
        go_enter Try.func4, Try.ntmps4

        go_wp2_with fail
        refine (n1 _).mono ?_
        rintro en w1 ⟨rfl, hb_w1⟩
        have n_w1 := hb_w1
        have H_w1 := n_w1
        go_wp2_with fail
        refine (pbegun_any _).mono ?_
        rintro en w2 ⟨rfl, hb_w2⟩
        have n_w2 := hb_w2
        have H_w2 := bt H_w1 n_w2
        go_wp2_with fail
        refine (n3 _).mono ?_
        rintro en w3 ⟨rfl, hb_w3⟩
        have n_w3 := hb_w3
        have H_w3 := bt H_w2 n_w3
        go_wp2_with fail
        refine (n4 _).mono ?_
        rintro en w4 ⟨rfl, hb_w4⟩
        have n_w4 := hb_w4
        have H_w4 := bt H_w3 n_w4
        go_wp2_with fail
        refine (n2 _).mono ?_
        rintro en w5 ⟨rfl, hb_w5⟩
        have n_w5 := hb_w5
        have H_w5 := bt H_w4 n_w5
        go_wp2_with fail
        refine (n5 _).mono ?_
        rintro en w6 ⟨rfl, hb_w6⟩
        have n_w6 := hb_w6
        have H_w6 := bt H_w5 n_w6
        go_wp2
        go_ret
        exact ⟨by first | rfl | (simp; done) | simp_all, H_w6⟩
    · have q1 : (a == a + 1) = false := by simp; omega
      have q2 : (T == n) = false := by simp; omega
      have q3 : (a != a) = false := by simp
      rcases core2 with ⟨hf, rfl⟩ | ⟨rfl, h3⟩
      · have hfb : (f != 0) = true := by simp [hf]
        go_enter Try.func4, Try.ntmps4

        go_wp2_with fail
        refine (n1 _).mono ?_
        rintro en w1 ⟨rfl, hb_w1⟩
        have n_w1 := hb_w1
        have H_w1 := n_w1
        go_wp2_with fail
        refine (pbegun_any _).mono ?_
        rintro en w2 ⟨rfl, hb_w2⟩
        have n_w2 := hb_w2
        have H_w2 := bt H_w1 n_w2
        go_wp2_with fail
        refine (n3 _).mono ?_
        rintro en w3 ⟨rfl, hb_w3⟩
        have n_w3 := hb_w3
        have H_w3 := bt H_w2 n_w3
        go_wp2_with fail
        refine (n4 _).mono ?_
        rintro en w4 ⟨rfl, hb_w4⟩
        have n_w4 := hb_w4
        have H_w4 := bt H_w3 n_w4
        go_wp2_with fail
        refine (n2 _).mono ?_
        rintro en w5 ⟨rfl, hb_w5⟩
        have n_w5 := hb_w5
        have H_w5 := bt H_w4 n_w5
        go_wp2
        go_ret
        exact ⟨by first | rfl | (simp; done) | simp_all, H_w5⟩
      · have n5 := age_any b t
        rw [h3] at n5
        unfold PairQ at n5
        have hq : (age == age) = true := by simp
        go_enter Try.func4, Try.ntmps4

        go_wp2_with fail
        refine (n1 _).mono ?_
        rintro en w1 ⟨rfl, hb_w1⟩
        have n_w1 := hb_w1
        have H_w1 := n_w1
        go_wp2_with fail
        refine (pbegun_any _).mono ?_
        rintro en w2 ⟨rfl, hb_w2⟩
        have n_w2 := hb_w2
        have H_w2 := bt H_w1 n_w2
        go_wp2_with fail
        refine (n3 _).mono ?_
        rintro en w3 ⟨rfl, hb_w3⟩
        have n_w3 := hb_w3
        have H_w3 := bt H_w2 n_w3
        go_wp2_with fail
        refine (n4 _).mono ?_
        rintro en w4 ⟨rfl, hb_w4⟩
        have n_w4 := hb_w4
        have H_w4 := bt H_w3 n_w4
        go_wp2_with fail
        refine (n2 _).mono ?_
        rintro en w5 ⟨rfl, hb_w5⟩
        have n_w5 := hb_w5
        have H_w5 := bt H_w4 n_w5
        go_wp2_with fail
        refine (n5 _).mono ?_
        rintro en w6 ⟨rfl, hb_w6⟩
        have n_w6 := hb_w6
        have H_w6 := bt H_w5 n_w6
        go_wp2
        go_ret
        exact ⟨by first | rfl | (simp; done) | simp_all, H_w6⟩
end Dt
end Go.Proofs.Ytalmjeigfhjhfaa
