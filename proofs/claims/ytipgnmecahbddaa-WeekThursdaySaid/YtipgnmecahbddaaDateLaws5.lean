/- The next day is one more; a week is of the year of its Thursday. -/
import Derived.Test.YtipgnmecahbddaaDateLaws2
import Derived.Test.YtipgnmecahbddaaWeekPlain2
namespace Go.Proofs.Ytipgnmecahbddaa
open Go.RowKit
namespace Dt
set_option maxHeartbeats 4000000 in
theorem thursday_walk (n : Int) (w : World) : Calls Try.prog 11 #[.int .i64 n] w (LT w) := by
  have hx : ∀ a b c : Int, aD (a, b, c) = .agg #[.int .i64 a, .int .i64 b, .int .i64 c] := fun _ _ _ => rfl
  by_cases hn : 1 ≤ n ∧ n ≤ 3652059
  · have hw : weekF n = (week n, 0) := by unfold weekF; rw [if_pos hn]
    have hm := monday_law n hn.1 hn.2
    have hw2 : weekF (n - wd n + 1) = (((week n).1, (week n).2.1, 1), 0) := by unfold weekF; rw [if_pos ⟨hm.1, hm.2.1⟩, hm.2.2]
    have hk := week_bd n hn.1 hn.2
    have hd := wd_bd n
    have ht : n + 4 - wd n = thu n := rfl
    have hthu := thursday_law n hn.1 hn.2
    have htb : 4 ≤ thu n ∧ thu n ≤ n + 3 := by unfold thu wd; omega
    have hwv : week n = ((week n).1, (week n).2.1, wd n) := rfl
    obtain ⟨n1, n2⟩ := hn
    generalize hP : (week n).1 = P at *
    generalize hQ : (week n).2.1 = Q at *
    generalize hR : wd n = R at *
    rw [hwv] at hw
    have hq1 : 1 ≤ Q := hk.1
    have hq2 : Q ≤ 53 := hk.2.1
    clear hk hm hP hQ hwv
    have Hw := Lib.hid hw; have Hw2 := Lib.hid hw2; have Hx := Lib.hid hx; have Ht := Lib.hid ht
    clear hw hw2 hx hR
    by_cases hT : thu n ≤ 3652059
    · obtain ⟨t1, t2⟩ := hthu hT
      have ho : ofF (thu n) = (dateOf (thu n), 0) := by unfold ofF; rw [if_pos ⟨t1, hT⟩]
      have hy : dateOf (thu n) = (P, (dateOf (thu n)).2.1, (dateOf (thu n)).2.2) := by rw [← t2]; rfl
      rw [hy] at ho
      generalize (dateOf (thu n)).2.1 = M at *
      generalize (dateOf (thu n)).2.2 = D at *
      have Ho := Lib.hid ho
      clear ho hy hthu t2

      go_enter Try.func11, Try.ntmps11
      go_wp2_with fail
      refine (week_any _ _).mono ?_
      rintro en w1 ⟨rfl, hb_w1⟩
      rw [Hw.out, Hx.out]
      have n_w1 := hb_w1
      have H_w1 := n_w1
      go_wp2_with fail
      refine (begun_any _).mono ?_
      rintro en w2 ⟨rfl, hb_w2⟩
      have n_w2 := bt ((br _).alloc (Nat.le_refl _) _) hb_w2
      have H_w2 := bt H_w1 n_w2
      have k_w2 := boxc (bx hb_w2)
      have l_w2 := boxs (bx hb_w2)
      have ht := Ht.out
      go_wp2_with fail
      refine (of_any _ _).mono ?_
      rintro en w3 ⟨rfl, hb_w3⟩
      rw [Ho.out, Hx.out]
      have n_w3 := hb_w3
      have H_w3 := bt H_w2 n_w3
      have k_w2 := kc n_w3 l_w2 k_w2
      have l_w2 := kl n_w3 l_w2
      go_wp2_with fail
      refine (week_any _ _).mono ?_
      rintro en w4 ⟨rfl, hb_w4⟩
      rw [Hw2.out, Hx.out]
      have n_w4 := bt ((br _).alloc (Nat.le_refl _) _) hb_w4
      have H_w4 := bt H_w3 n_w4
      have k_w2 := kc n_w4 l_w2 k_w2
      have l_w2 := kl n_w4 l_w2
      have k_w4 := boxc (bx hb_w4)
      have l_w4 := boxs (bx hb_w4)
      go_wp2
      go_ret
      refine ⟨?_, ?_⟩
      · first | rfl | (simp; done) | simp_all
      · first | exact H_w4 | exact H_w4.alloc H_w4.size _ | exact bn H_w4 _ | exact bn (H_w4.alloc H_w4.size _) _ | exact (bn H_w4 _).alloc H_w4.size _
    · have ho : ofF (thu n) = ((0, 0, 0), 3) := by unfold ofF; rw [if_neg (by omega)]
      have Ho := Lib.hid ho
      clear ho hthu

      go_enter Try.func11, Try.ntmps11
      go_wp2_with fail
      refine (week_any _ _).mono ?_
      rintro en w1 ⟨rfl, hb_w1⟩
      rw [Hw.out, Hx.out]
      have n_w1 := hb_w1
      have H_w1 := n_w1
      go_wp2_with fail
      refine (begun_any _).mono ?_
      rintro en w2 ⟨rfl, hb_w2⟩
      have n_w2 := bt ((br _).alloc (Nat.le_refl _) _) hb_w2
      have H_w2 := bt H_w1 n_w2
      have k_w2 := boxc (bx hb_w2)
      have l_w2 := boxs (bx hb_w2)
      have ht := Ht.out
      go_wp2_with fail
      refine (of_any _ _).mono ?_
      rintro en w3 ⟨rfl, hb_w3⟩
      rw [Ho.out, Hx.out]
      have n_w3 := hb_w3
      have H_w3 := bt H_w2 n_w3
      have k_w2 := kc n_w3 l_w2 k_w2
      have l_w2 := kl n_w3 l_w2
      go_wp2_with fail
      refine (week_any _ _).mono ?_
      rintro en w4 ⟨rfl, hb_w4⟩
      rw [Hw2.out, Hx.out]
      have n_w4 := bt ((br _).alloc (Nat.le_refl _) _) hb_w4
      have H_w4 := bt H_w3 n_w4
      have k_w2 := kc n_w4 l_w2 k_w2
      have l_w2 := kl n_w4 l_w2
      have k_w4 := boxc (bx hb_w4)
      have l_w4 := boxs (bx hb_w4)
      go_wp2
      go_ret
      refine ⟨?_, ?_⟩
      · first | rfl | (simp; done) | simp_all
      · first | exact H_w4 | exact H_w4.alloc H_w4.size _ | exact bn H_w4 _ | exact bn (H_w4.alloc H_w4.size _) _ | exact (bn H_w4 _).alloc H_w4.size _
  · have hw : weekF n = ((0, 0, 0), 3) := by unfold weekF; rw [if_neg hn]
    have Hw := Lib.hid hw; have Hx := Lib.hid hx
    clear hw hx hn

    go_enter Try.func11, Try.ntmps11
    go_wp2_with fail
    refine (week_any _ _).mono ?_
    rintro en w1 ⟨rfl, hb_w1⟩
    rw [Hw.out, Hx.out]
    have n_w1 := hb_w1
    have H_w1 := n_w1
    go_wp2_with fail
    refine (begun_any _).mono ?_
    rintro en w2 ⟨rfl, hb_w2⟩
    have n_w2 := bt ((br _).alloc (Nat.le_refl _) _) hb_w2
    have H_w2 := bt H_w1 n_w2
    have k_w2 := boxc (bx hb_w2)
    have l_w2 := boxs (bx hb_w2)
    go_wp2
    go_ret
    refine ⟨?_, ?_⟩
    · first | rfl | (simp; done) | simp_all
    · first | exact H_w2 | exact H_w2.alloc H_w2.size _ | exact bn H_w2 _ | exact bn (H_w2.alloc H_w2.size _) _ | exact (bn H_w2 _).alloc H_w2.size _

end Dt
end Go.Proofs.Ytipgnmecahbddaa
