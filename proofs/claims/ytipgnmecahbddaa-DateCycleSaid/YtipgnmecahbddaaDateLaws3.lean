/- Dates and numbers go to and fro; the next day is one more. -/
import Derived.Test.YtipgnmecahbddaaDateLaws2
namespace Go.Proofs.Ytipgnmecahbddaa
open Go.RowKit
namespace Dt
theorem beq_int_self (a : Int) : (a == a) = true := by simp
set_option maxHeartbeats 4000000 in
theorem back_walk (y m d n : Int) (w : World) : Calls Try.prog 6 #[.agg #[.int .i64 y, .int .i64 m, .int .i64 d], .int .i64 n] w (LT w) := by
  obtain ⟨⟨B, C, D⟩, hb⟩ : ∃ x, x = (ofF n).1 := ⟨_, rfl⟩
  have hx : aD (B, C, D) = .agg #[.int .i64 B, .int .i64 C, .int .i64 D] := rfl
  by_cases hn : 1 ≤ n ∧ n ≤ 3652059
  · have hf : (ofF n).2 = 0 := by unfold ofF; rw [if_pos hn]
    have hof : (B, C, D) = dateOf n := by rw [hb]; unfold ofF; rw [if_pos hn]
    obtain ⟨hv, hr⟩ := dateOf_spec n hn.1 hn.2
    rw [← hof] at hv hr
    have hday := dayOf_ok hv
    simp only at hday hr
    rw [hr] at hday
    obtain ⟨n1, n2⟩ := hn
    have Hb := Lib.hid hb; have Hf := Lib.hid hf; have Hx := Lib.hid hx; have Hd := Lib.hid hday
    clear hb hf hx hof hv hr hday
    by_cases hv : Valid y m d
    · have he := dayOf_ok hv
      have ho : ofF (raw y m d) = ((y, m, d), 0) := by
        have := raw_bd hv
        unfold ofF; rw [if_pos this, dateOf_raw hv]
      have hx2 : aD (y, m, d) = .agg #[.int .i64 y, .int .i64 m, .int .i64 d] := rfl
      have He := Lib.hid he; have Ho := Lib.hid ho; have Hx2 := Lib.hid hx2
      clear he ho hv hx2

      go_enter Try.func6, Try.ntmps6
      go_wp2_with fail
      refine (day_any _ _ _ _).mono ?_
      rintro en w1 ⟨rfl, hb_w1⟩
      rw [He.out]
      have n_w1 := bt ((br _).alloc (Nat.le_refl _) _) hb_w1
      have H_w1 := n_w1
      have k_w1 := boxc (bx hb_w1)
      have l_w1 := boxs (bx hb_w1)
      go_wp2_with fail
      refine (of_any _ _).mono ?_
      rintro en w2 ⟨rfl, hb_w2⟩
      rw [← Hb.out, Hf.out, Hx.out]
      have n_w2 := hb_w2
      have H_w2 := bt H_w1 n_w2
      have k_w1 := kc n_w2 l_w1 k_w1
      have l_w1 := kl n_w2 l_w1
      go_wp2_with fail
      refine (begun_any _).mono ?_
      rintro en w3 ⟨rfl, hb_w3⟩
      have n_w3 := bt ((br _).alloc (Nat.le_refl _) _) hb_w3
      have H_w3 := bt H_w2 n_w3
      have k_w1 := kc n_w3 l_w1 k_w1
      have l_w1 := kl n_w3 l_w1
      have k_w3 := boxc (bx hb_w3)
      have l_w3 := boxs (bx hb_w3)
      go_wp2_with fail
      refine (of_any _ _).mono ?_
      rintro en w4 ⟨rfl, hb_w4⟩
      rw [Ho.out, Hx2.out]
      have n_w4 := hb_w4
      have H_w4 := bt H_w3 n_w4
      have k_w1 := kc n_w4 l_w1 k_w1
      have l_w1 := kl n_w4 l_w1
      have k_w3 := kc n_w4 l_w3 k_w3
      have l_w3 := kl n_w4 l_w3
      go_wp2_with fail
      refine (day_any _ _ _ _).mono ?_
      rintro en w5 ⟨rfl, hb_w5⟩
      rw [Hd.out]
      have n_w5 := bt ((br _).alloc (Nat.le_refl _) _) hb_w5
      have H_w5 := bt H_w4 n_w5
      have k_w1 := kc n_w5 l_w1 k_w1
      have l_w1 := kl n_w5 l_w1
      have k_w3 := kc n_w5 l_w3 k_w3
      have l_w3 := kl n_w5 l_w3
      have k_w5 := boxc (bx hb_w5)
      have l_w5 := boxs (bx hb_w5)
      go_wp2
      go_ret
      refine ⟨?_, ?_⟩
      · first | rfl | (simp; done) | simp_all
      · first | exact H_w5 | exact H_w5.alloc H_w5.size _ | exact bn H_w5 _ | exact bn (H_w5.alloc H_w5.size _) _ | exact (bn H_w5 _).alloc H_w5.size _
    · have he := dayOf_no hv
      have He := Lib.hid he
      clear he hv

      go_enter Try.func6, Try.ntmps6
      go_wp2_with fail
      refine (day_any _ _ _ _).mono ?_
      rintro en w1 ⟨rfl, hb_w1⟩
      rw [He.out]
      have n_w1 := bt ((br _).alloc (Nat.le_refl _) _) hb_w1
      have H_w1 := n_w1
      have k_w1 := boxc (bx hb_w1)
      have l_w1 := boxs (bx hb_w1)
      go_wp2_with fail
      refine (of_any _ _).mono ?_
      rintro en w2 ⟨rfl, hb_w2⟩
      rw [← Hb.out, Hf.out, Hx.out]
      have n_w2 := hb_w2
      have H_w2 := bt H_w1 n_w2
      have k_w1 := kc n_w2 l_w1 k_w1
      have l_w1 := kl n_w2 l_w1
      go_wp2_with fail
      refine (begun_any _).mono ?_
      rintro en w3 ⟨rfl, hb_w3⟩
      have n_w3 := bt ((br _).alloc (Nat.le_refl _) _) hb_w3
      have H_w3 := bt H_w2 n_w3
      have k_w1 := kc n_w3 l_w1 k_w1
      have l_w1 := kl n_w3 l_w1
      have k_w3 := boxc (bx hb_w3)
      have l_w3 := boxs (bx hb_w3)
      go_wp2_with fail
      refine (day_any _ _ _ _).mono ?_
      rintro en w5 ⟨rfl, hb_w5⟩
      rw [Hd.out]
      have n_w5 := hb_w5
      have H_w5 := bt H_w3 n_w5
      have k_w1 := kc n_w5 l_w1 k_w1
      have l_w1 := kl n_w5 l_w1
      have k_w3 := kc n_w5 l_w3 k_w3
      have l_w3 := kl n_w5 l_w3
      go_wp2
      go_ret
      refine ⟨?_, ?_⟩
      · first | rfl | (simp; done) | simp_all
      · first | exact H_w5 | exact H_w5.alloc H_w5.size _ | exact bn H_w5 _ | exact bn (H_w5.alloc H_w5.size _) _ | exact (bn H_w5 _).alloc H_w5.size _
  · have hf : ofF n = ((0, 0, 0), 3) := by unfold ofF; rw [if_neg hn]
    have hx0 : aD (0, 0, 0) = .agg #[.int .i64 0, .int .i64 0, .int .i64 0] := rfl
    clear hb hx
    have Hf := Lib.hid hf; have Hx := Lib.hid hx0; clear hf hx0
    have hn' : n < 1 ∨ (1 ≤ n ∧ 3652059 < n) := by omega
    clear hn
    by_cases hv : Valid y m d
    · have he := dayOf_ok hv
      have ho : ofF (raw y m d) = ((y, m, d), 0) := by
        have := raw_bd hv
        unfold ofF; rw [if_pos this, dateOf_raw hv]
      have hx2 : aD (y, m, d) = .agg #[.int .i64 y, .int .i64 m, .int .i64 d] := rfl
      have He := Lib.hid he; have Ho := Lib.hid ho; have Hx2 := Lib.hid hx2
      clear he ho hv hx2
      rcases hn' with g | ⟨g1, g⟩
      all_goals

        go_enter Try.func6, Try.ntmps6
        go_wp2_with fail
        refine (day_any _ _ _ _).mono ?_
        rintro en w1 ⟨rfl, hb_w1⟩
        rw [He.out]
        have n_w1 := bt ((br _).alloc (Nat.le_refl _) _) hb_w1
        have H_w1 := n_w1
        have k_w1 := boxc (bx hb_w1)
        have l_w1 := boxs (bx hb_w1)
        go_wp2_with fail
        refine (of_any _ _).mono ?_
        rintro en w2 ⟨rfl, hb_w2⟩
        rw [Hf.out, Hx.out]
        have n_w2 := hb_w2
        have H_w2 := bt H_w1 n_w2
        have k_w1 := kc n_w2 l_w1 k_w1
        have l_w1 := kl n_w2 l_w1
        go_wp2_with fail
        refine (begun_any _).mono ?_
        rintro en w3 ⟨rfl, hb_w3⟩
        have n_w3 := bt ((br _).alloc (Nat.le_refl _) _) hb_w3
        have H_w3 := bt H_w2 n_w3
        have k_w1 := kc n_w3 l_w1 k_w1
        have l_w1 := kl n_w3 l_w1
        have k_w3 := boxc (bx hb_w3)
        have l_w3 := boxs (bx hb_w3)
        go_wp2_with fail
        refine (of_any _ _).mono ?_
        rintro en w4 ⟨rfl, hb_w4⟩
        rw [Ho.out, Hx2.out]
        have n_w4 := hb_w4
        have H_w4 := bt H_w3 n_w4
        have k_w1 := kc n_w4 l_w1 k_w1
        have l_w1 := kl n_w4 l_w1
        have k_w3 := kc n_w4 l_w3 k_w3
        have l_w3 := kl n_w4 l_w3
        go_wp2
        go_ret
        refine ⟨?_, ?_⟩
        · first | rfl | (simp; done) | simp_all
        · first | exact H_w4 | exact H_w4.alloc H_w4.size _ | exact bn H_w4 _ | exact bn (H_w4.alloc H_w4.size _) _ | exact (bn H_w4 _).alloc H_w4.size _
    · have he := dayOf_no hv
      have He := Lib.hid he
      clear he hv
      rcases hn' with g | ⟨g1, g⟩
      all_goals

        go_enter Try.func6, Try.ntmps6
        go_wp2_with fail
        refine (day_any _ _ _ _).mono ?_
        rintro en w1 ⟨rfl, hb_w1⟩
        rw [He.out]
        have n_w1 := bt ((br _).alloc (Nat.le_refl _) _) hb_w1
        have H_w1 := n_w1
        have k_w1 := boxc (bx hb_w1)
        have l_w1 := boxs (bx hb_w1)
        go_wp2_with fail
        refine (of_any _ _).mono ?_
        rintro en w2 ⟨rfl, hb_w2⟩
        rw [Hf.out, Hx.out]
        have n_w2 := hb_w2
        have H_w2 := bt H_w1 n_w2
        have k_w1 := kc n_w2 l_w1 k_w1
        have l_w1 := kl n_w2 l_w1
        go_wp2_with fail
        refine (begun_any _).mono ?_
        rintro en w3 ⟨rfl, hb_w3⟩
        have n_w3 := bt ((br _).alloc (Nat.le_refl _) _) hb_w3
        have H_w3 := bt H_w2 n_w3
        have k_w1 := kc n_w3 l_w1 k_w1
        have l_w1 := kl n_w3 l_w1
        have k_w3 := boxc (bx hb_w3)
        have l_w3 := boxs (bx hb_w3)
        go_wp2
        go_ret
        refine ⟨?_, ?_⟩
        · first | rfl | (simp; done) | simp_all
        · first | exact H_w3 | exact H_w3.alloc H_w3.size _ | exact bn H_w3 _ | exact bn (H_w3.alloc H_w3.size _) _ | exact (bn H_w3 _).alloc H_w3.size _
end Dt
end Go.Proofs.Ytipgnmecahbddaa
