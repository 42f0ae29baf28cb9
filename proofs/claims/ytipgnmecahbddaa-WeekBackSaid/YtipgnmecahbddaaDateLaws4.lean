/- 400 years; weeks and numbers go to and fro; the document's weeks. -/
import Derived.Test.YtipgnmecahbddaaDateLaws2
import Derived.Test.YtipgnmecahbddaaWeekPlain2
namespace Go.Proofs.Ytipgnmecahbddaa
open Go.RowKit
namespace Dt
set_option maxHeartbeats 4000000 in
theorem cycle_walk (y m d : Int) (w : World) : Calls Try.prog 8 #[.agg #[.int .i64 y, .int .i64 m, .int .i64 d]] w (LT w) := by
  by_cases hv : Valid y m d
  · have he := dayOf_ok hv
    have hy1 := hv.y1; have hy2 := hv.y2
    by_cases hy : y ≤ 9599
    · obtain ⟨c1, c2⟩ := cycle_law hv hy
      have he2 := dayOf_ok c1
      rw [c2] at he2
      have b1 := raw_bd hv
      have b2 := raw_bd c1
      rw [c2] at b2
      have w1' : weekF (raw y m d) = (week (raw y m d), 0) := by unfold weekF; rw [if_pos b1]
      have w2' : weekF (raw y m d + 146097) = (((week (raw y m d)).1 + 400, (week (raw y m d)).2.1, (week (raw y m d)).2.2), 0) := by
        unfold weekF; rw [if_pos b2, week_cycle _ b1.1 b2.2]
      have hwb := wyear_spec (raw y m d) b1.1 b1.2
      have hwy : (week (raw y m d)).1 = wyear (raw y m d) := rfl
      rw [← hwy] at hwb
      have hx : ∀ a b c : Int, aD (a, b, c) = .agg #[.int .i64 a, .int .i64 b, .int .i64 c] := fun _ _ _ => rfl
      obtain ⟨⟨P, Q, R⟩, hp⟩ : ∃ x, x = week (raw y m d) := ⟨_, rfl⟩
      rw [← hp] at w1' w2' hwb
      generalize raw y m d = N at *
      have He := Lib.hid he; have He2 := Lib.hid he2; have W1 := Lib.hid w1'; have W2 := Lib.hid w2'; have Hx := Lib.hid hx
      simp only at hwb
      clear he he2 w1' w2' hx c1 c2 hv hp hwy

      go_enter Try.func8, Try.ntmps8
      go_wp2_with fail
      refine (day_any _ _ _ _).mono ?_
      rintro en w1 ⟨rfl, hb_w1⟩
      rw [He.out]
      have n_w1 := bt ((br _).alloc (Nat.le_refl _) _) hb_w1
      have H_w1 := n_w1
      have k_w1 := boxc (bx hb_w1)
      have l_w1 := boxs (bx hb_w1)
      go_wp2_with fail
      refine (begun_any _).mono ?_
      rintro en w2 ⟨rfl, hb_w2⟩
      have n_w2 := hb_w2
      have H_w2 := bt H_w1 n_w2
      have k_w1 := kc n_w2 l_w1 k_w1
      have l_w1 := kl n_w2 l_w1
      go_wp2_with fail
      refine (dayL_any _ _ _ _).mono ?_
      rintro en w3 ⟨rfl, hb_w3⟩
      have n_w3 := hb_w3
      have H_w3 := bt H_w2 n_w3
      have k_w1 := kc n_w3 l_w1 k_w1
      have l_w1 := kl n_w3 l_w1
      go_wp2_with fail
      refine (day_any _ _ _ _).mono ?_
      rintro en w4 ⟨rfl, hb_w4⟩
      rw [He2.out]
      have n_w4 := hb_w4
      have H_w4 := bt H_w3 n_w4
      have k_w1 := kc n_w4 l_w1 k_w1
      have l_w1 := kl n_w4 l_w1
      go_wp2_with fail
      refine (week_any _ _).mono ?_
      rintro en w5 ⟨rfl, hb_w5⟩
      rw [W1.out, Hx.out]
      have n_w5 := hb_w5
      have H_w5 := bt H_w4 n_w5
      have k_w1 := kc n_w5 l_w1 k_w1
      have l_w1 := kl n_w5 l_w1
      go_wp2_with fail
      refine (week_any _ _).mono ?_
      rintro en w6 ⟨rfl, hb_w6⟩
      rw [W2.out, Hx.out]
      have n_w6 := bt ((br _).alloc (Nat.le_refl _) _) hb_w6
      have H_w6 := bt H_w5 n_w6
      have k_w1 := kc n_w6 l_w1 k_w1
      have l_w1 := kl n_w6 l_w1
      have k_w6 := boxc (bx hb_w6)
      have l_w6 := boxs (bx hb_w6)
      go_wp2
      go_ret
      refine ⟨?_, ?_⟩
      · first | rfl | (simp; done) | simp_all
      · first | exact H_w6 | exact H_w6.alloc H_w6.size _ | exact bn H_w6 _ | exact bn (H_w6.alloc H_w6.size _) _ | exact (bn H_w6 _).alloc H_w6.size _
    · have He := Lib.hid he
      clear he hv

      go_enter Try.func8, Try.ntmps8
      go_wp2_with fail
      refine (day_any _ _ _ _).mono ?_
      rintro en w1 ⟨rfl, hb_w1⟩
      rw [He.out]
      have n_w1 := bt ((br _).alloc (Nat.le_refl _) _) hb_w1
      have H_w1 := n_w1
      have k_w1 := boxc (bx hb_w1)
      have l_w1 := boxs (bx hb_w1)
      go_wp2_with fail
      refine (begun_any _).mono ?_
      rintro en w2 ⟨rfl, hb_w2⟩
      have n_w2 := hb_w2
      have H_w2 := bt H_w1 n_w2
      have k_w1 := kc n_w2 l_w1 k_w1
      have l_w1 := kl n_w2 l_w1
      go_wp2
      go_ret
      refine ⟨?_, ?_⟩
      · first | rfl | (simp; done) | simp_all
      · first | exact H_w2 | exact H_w2.alloc H_w2.size _ | exact bn H_w2 _ | exact bn (H_w2.alloc H_w2.size _) _ | exact (bn H_w2 _).alloc H_w2.size _
  · have he := dayOf_no hv
    have He := Lib.hid he
    clear he hv

    go_enter Try.func8, Try.ntmps8
    go_wp2_with fail
    refine (day_any _ _ _ _).mono ?_
    rintro en w1 ⟨rfl, hb_w1⟩
    rw [He.out]
    have n_w1 := bt ((br _).alloc (Nat.le_refl _) _) hb_w1
    have H_w1 := n_w1
    have k_w1 := boxc (bx hb_w1)
    have l_w1 := boxs (bx hb_w1)
    go_wp2_with fail
    refine (begun_any _).mono ?_
    rintro en w2 ⟨rfl, hb_w2⟩
    have n_w2 := hb_w2
    have H_w2 := bt H_w1 n_w2
    have k_w1 := kc n_w2 l_w1 k_w1
    have l_w1 := kl n_w2 l_w1
    go_wp2
    go_ret
    refine ⟨?_, ?_⟩
    · first | rfl | (simp; done) | simp_all
    · first | exact H_w2 | exact H_w2.alloc H_w2.size _ | exact bn H_w2 _ | exact bn (H_w2.alloc H_w2.size _) _ | exact (bn H_w2 _).alloc H_w2.size _

set_option maxHeartbeats 4000000 in
theorem weekTells_walk (n y k d : Int) (w : World) : Calls Try.prog 9 #[.int .i64 n, .agg #[.int .i64 y, .int .i64 k, .int .i64 d]] w (LT w) := by
  obtain ⟨⟨P, Q, R⟩, hp⟩ : ∃ x, x = (weekF n).1 := ⟨_, rfl⟩
  obtain ⟨f, hf⟩ : ∃ f, f = (weekF n).2 := ⟨_, rfl⟩
  obtain ⟨b, hb⟩ : ∃ b, b = (ofWeek y k d).1 := ⟨_, rfl⟩
  obtain ⟨g, hg⟩ : ∃ g, g = (ofWeek y k d).2 := ⟨_, rfl⟩
  have hx : aD (P, Q, R) = .agg #[.int .i64 P, .int .i64 Q, .int .i64 R] := rfl
  have Hp := Lib.hid hp; have Hf := Lib.hid hf; have Hb := Lib.hid hb; have Hg := Lib.hid hg; have Hx := Lib.hid hx
  clear hp hf hb hg hx

  go_enter Try.func9, Try.ntmps9
  go_wp2_with fail
  refine (week_any _ _).mono ?_
  rintro en w1 ⟨rfl, hb_w1⟩
  rw [← Hp.out, ← Hf.out, Hx.out]
  have n_w1 := bt ((br _).alloc (Nat.le_refl _) _) hb_w1
  have H_w1 := n_w1
  have k_w1 := boxc (bx hb_w1)
  have l_w1 := boxs (bx hb_w1)
  go_wp2_with fail
  refine (ofWeek_any _ _ _ _).mono ?_
  rintro en w2 ⟨rfl, hb_w2⟩
  rw [← Hb.out, ← Hg.out]
  have n_w2 := bt ((br _).alloc (Nat.le_refl _) _) hb_w2
  have H_w2 := bt H_w1 n_w2
  have k_w1 := kc n_w2 l_w1 k_w1
  have l_w1 := kl n_w2 l_w1
  have k_w2 := boxc (bx hb_w2)
  have l_w2 := boxs (bx hb_w2)
  go_wp2_with fail
  refine (weekR_any _ _).mono ?_
  rintro en w3 ⟨rfl, hb_w3⟩
  rw [← Hp.out, ← Hf.out, Hx.out]
  have n_w3 := hb_w3
  have H_w3 := bt H_w2 n_w3
  have k_w1 := kc n_w3 l_w1 k_w1
  have l_w1 := kl n_w3 l_w1
  have k_w2 := kc n_w3 l_w2 k_w2
  have l_w2 := kl n_w3 l_w2
  go_wp2_with fail
  refine (ofWeekR_any _ _ _ _).mono ?_
  rintro en w4 ⟨rfl, hb_w4⟩
  rw [← Hb.out, ← Hg.out]
  have n_w4 := bt ((br _).alloc (Nat.le_refl _) _) hb_w4
  have H_w4 := bt H_w3 n_w4
  have k_w1 := kc n_w4 l_w1 k_w1
  have l_w1 := kl n_w4 l_w1
  have k_w2 := kc n_w4 l_w2 k_w2
  have l_w2 := kl n_w4 l_w2
  have k_w4 := boxc (bx hb_w4)
  have l_w4 := boxs (bx hb_w4)
  go_wp2_with fail
  refine (begun_any _).mono ?_
  rintro en w5 ⟨rfl, hb_w5⟩
  have n_w5 := hb_w5
  have H_w5 := bt H_w4 n_w5
  have k_w1 := kc n_w5 l_w1 k_w1
  have l_w1 := kl n_w5 l_w1
  have k_w2 := kc n_w5 l_w2 k_w2
  have l_w2 := kl n_w5 l_w2
  have k_w4 := kc n_w5 l_w4 k_w4
  have l_w4 := kl n_w5 l_w4
  go_wp2
  go_ret
  refine ⟨?_, ?_⟩
  · first | rfl | (simp; done) | simp_all
  · first | exact H_w5 | exact H_w5.alloc H_w5.size _ | exact bn H_w5 _ | exact bn (H_w5.alloc H_w5.size _) _ | exact (bn H_w5 _).alloc H_w5.size _

set_option maxHeartbeats 4000000 in
theorem weekBack_walk (n y k d : Int) (w : World) : Calls Try.prog 10 #[.int .i64 n, .agg #[.int .i64 y, .int .i64 k, .int .i64 d]] w (LT w) := by
  have hx : ∀ a b c : Int, aD (a, b, c) = .agg #[.int .i64 a, .int .i64 b, .int .i64 c] := fun _ _ _ => rfl
  obtain ⟨⟨P, Q, R⟩, hp⟩ : ∃ x, x = (weekF n).1 := ⟨_, rfl⟩
  obtain ⟨f, hf⟩ : ∃ f, f = (weekF n).2 := ⟨_, rfl⟩
  have h1 : f = 0 ∧ P ≤ 9999 → ofWeek P Q R = (n, 0) := by
    intro ⟨h1, h2⟩
    unfold weekF at hp hf
    by_cases c : 1 ≤ n ∧ n ≤ 3652059
    · rw [if_pos c] at hp
      simp only at hp
      have := ofWeek_week n c.1 c.2 (by rw [show wyear n = (week n).1 from rfl, ← hp]; exact h2)
      rw [← hp] at this; exact this
    · rw [if_neg c] at hf; simp only at hf; omega
  obtain ⟨b, hb⟩ : ∃ b, b = (ofWeek y k d).1 := ⟨_, rfl⟩
  obtain ⟨g, hg⟩ : ∃ g, g = (ofWeek y k d).2 := ⟨_, rfl⟩
  have h2 : g = 0 → weekF b = ((y, k, d), 0) := by
    intro h
    have := week_ofWeek y k d b (Prod.ext hb.symm (hg.symm.trans h))
    unfold weekF; rw [if_pos ⟨this.1, this.2.1⟩, this.2.2]
  have h3 : g ≠ 0 → b = 0 := by
    intro h
    rcases ofWeek_err y k d with e | e
    · exact absurd (hg.trans e) h
    · rw [hb, e]
  have Hp := Lib.hid hp; have Hf := Lib.hid hf; have Hb := Lib.hid hb; have Hg := Lib.hid hg; have Hx := Lib.hid hx
  clear hp hf hb hg hx
  by_cases c1 : f = 0 ∧ P ≤ 9999
  · have e1 := h1 c1
    obtain ⟨rfl, c2⟩ := c1
    have E1 := Lib.hid e1
    clear h1 e1
    by_cases c3 : g = 0
    · have e2 := h2 c3
      subst c3
      have E2 := Lib.hid e2
      clear h2 h3 e2

      go_enter Try.func10, Try.ntmps10
      go_wp2_with fail
      refine (week_any _ _).mono ?_
      rintro en w1 ⟨rfl, hb_w1⟩
      rw [← Hp.out, ← Hf.out, Hx.out]
      have n_w1 := bt ((br _).alloc (Nat.le_refl _) _) hb_w1
      have H_w1 := n_w1
      have k_w1 := boxc (bx hb_w1)
      have l_w1 := boxs (bx hb_w1)
      go_wp2_with fail
      refine (ofWeek_any _ _ _ _).mono ?_
      rintro en w2 ⟨rfl, hb_w2⟩
      rw [← Hb.out, ← Hg.out]
      have n_w2 := bt ((br _).alloc (Nat.le_refl _) _) hb_w2
      have H_w2 := bt H_w1 n_w2
      have k_w1 := kc n_w2 l_w1 k_w1
      have l_w1 := kl n_w2 l_w1
      have k_w2 := boxc (bx hb_w2)
      have l_w2 := boxs (bx hb_w2)
      go_wp2_with fail
      refine (begun_any _).mono ?_
      rintro en w3 ⟨rfl, hb_w3⟩
      have n_w3 := hb_w3
      have H_w3 := bt H_w2 n_w3
      have k_w1 := kc n_w3 l_w1 k_w1
      have l_w1 := kl n_w3 l_w1
      have k_w2 := kc n_w3 l_w2 k_w2
      have l_w2 := kl n_w3 l_w2
      go_wp2_with fail
      refine (ofWeek_any _ _ _ _).mono ?_
      rintro en w4 ⟨rfl, hb_w4⟩
      rw [E1.out]
      have n_w4 := hb_w4
      have H_w4 := bt H_w3 n_w4
      have k_w1 := kc n_w4 l_w1 k_w1
      have l_w1 := kl n_w4 l_w1
      have k_w2 := kc n_w4 l_w2 k_w2
      have l_w2 := kl n_w4 l_w2
      go_wp2_with fail
      refine (week_any _ _).mono ?_
      rintro en w5 ⟨rfl, hb_w5⟩
      rw [E2.out, Hx.out]
      have n_w5 := hb_w5
      have H_w5 := bt H_w4 n_w5
      have k_w1 := kc n_w5 l_w1 k_w1
      have l_w1 := kl n_w5 l_w1
      have k_w2 := kc n_w5 l_w2 k_w2
      have l_w2 := kl n_w5 l_w2
      go_wp2
      go_ret
      refine ⟨?_, ?_⟩
      · first | rfl | (simp; done) | simp_all
      · first | exact H_w5 | exact H_w5.alloc H_w5.size _ | exact bn H_w5 _ | exact bn (H_w5.alloc H_w5.size _) _ | exact (bn H_w5 _).alloc H_w5.size _
    · obtain rfl := h3 c3
      have c4 : (g != 0) = true := by simp [c3]
      clear h2 h3 c3

      go_enter Try.func10, Try.ntmps10
      go_wp2_with fail
      refine (week_any _ _).mono ?_
      rintro en w1 ⟨rfl, hb_w1⟩
      rw [← Hp.out, ← Hf.out, Hx.out]
      have n_w1 := bt ((br _).alloc (Nat.le_refl _) _) hb_w1
      have H_w1 := n_w1
      have k_w1 := boxc (bx hb_w1)
      have l_w1 := boxs (bx hb_w1)
      go_wp2_with fail
      refine (ofWeek_any _ _ _ _).mono ?_
      rintro en w2 ⟨rfl, hb_w2⟩
      rw [← Hb.out, ← Hg.out]
      have n_w2 := bt ((br _).alloc (Nat.le_refl _) _) hb_w2
      have H_w2 := bt H_w1 n_w2
      have k_w1 := kc n_w2 l_w1 k_w1
      have l_w1 := kl n_w2 l_w1
      have k_w2 := boxc (bx hb_w2)
      have l_w2 := boxs (bx hb_w2)
      go_wp2_with fail
      refine (begun_any _).mono ?_
      rintro en w3 ⟨rfl, hb_w3⟩
      have n_w3 := hb_w3
      have H_w3 := bt H_w2 n_w3
      have k_w1 := kc n_w3 l_w1 k_w1
      have l_w1 := kl n_w3 l_w1
      have k_w2 := kc n_w3 l_w2 k_w2
      have l_w2 := kl n_w3 l_w2
      go_wp2_with fail
      refine (ofWeek_any _ _ _ _).mono ?_
      rintro en w4 ⟨rfl, hb_w4⟩
      rw [E1.out]
      have n_w4 := hb_w4
      have H_w4 := bt H_w3 n_w4
      have k_w1 := kc n_w4 l_w1 k_w1
      have l_w1 := kl n_w4 l_w1
      have k_w2 := kc n_w4 l_w2 k_w2
      have l_w2 := kl n_w4 l_w2
      go_wp2
      go_ret
      refine ⟨?_, ?_⟩
      · first | rfl | (simp; done) | simp_all
      · first | exact H_w4 | exact H_w4.alloc H_w4.size _ | exact bn H_w4 _ | exact bn (H_w4.alloc H_w4.size _) _ | exact (bn H_w4 _).alloc H_w4.size _
  · have c2 : (f == 0) = false ∨ (f = 0 ∧ 9999 < P) := by
      by_cases a : f = 0
      · exact .inr ⟨a, by omega⟩
      · exact .inl (by simp [a])
    clear h1 c1
    rcases c2 with c2 | ⟨rfl, c2⟩
    all_goals
      by_cases c3 : g = 0
      · have e2 := h2 c3
        subst c3
        have E2 := Lib.hid e2
        clear h2 h3 e2

        go_enter Try.func10, Try.ntmps10
        go_wp2_with fail
        refine (week_any _ _).mono ?_
        rintro en w1 ⟨rfl, hb_w1⟩
        rw [← Hp.out, ← Hf.out, Hx.out]
        have n_w1 := bt ((br _).alloc (Nat.le_refl _) _) hb_w1
        have H_w1 := n_w1
        have k_w1 := boxc (bx hb_w1)
        have l_w1 := boxs (bx hb_w1)
        go_wp2_with fail
        refine (ofWeek_any _ _ _ _).mono ?_
        rintro en w2 ⟨rfl, hb_w2⟩
        rw [← Hb.out, ← Hg.out]
        have n_w2 := bt ((br _).alloc (Nat.le_refl _) _) hb_w2
        have H_w2 := bt H_w1 n_w2
        have k_w1 := kc n_w2 l_w1 k_w1
        have l_w1 := kl n_w2 l_w1
        have k_w2 := boxc (bx hb_w2)
        have l_w2 := boxs (bx hb_w2)
        go_wp2_with fail
        refine (begun_any _).mono ?_
        rintro en w3 ⟨rfl, hb_w3⟩
        have n_w3 := hb_w3
        have H_w3 := bt H_w2 n_w3
        have k_w1 := kc n_w3 l_w1 k_w1
        have l_w1 := kl n_w3 l_w1
        have k_w2 := kc n_w3 l_w2 k_w2
        have l_w2 := kl n_w3 l_w2
        go_wp2_with fail
        refine (week_any _ _).mono ?_
        rintro en w5 ⟨rfl, hb_w5⟩
        rw [E2.out, Hx.out]
        have n_w5 := hb_w5
        have H_w5 := bt H_w3 n_w5
        have k_w1 := kc n_w5 l_w1 k_w1
        have l_w1 := kl n_w5 l_w1
        have k_w2 := kc n_w5 l_w2 k_w2
        have l_w2 := kl n_w5 l_w2
        go_wp2
        go_ret
        refine ⟨?_, ?_⟩
        · first | rfl | (simp; done) | simp_all
        · first | exact H_w5 | exact H_w5.alloc H_w5.size _ | exact bn H_w5 _ | exact bn (H_w5.alloc H_w5.size _) _ | exact (bn H_w5 _).alloc H_w5.size _
      · obtain rfl := h3 c3
        have c4 : (g != 0) = true := by simp [c3]
        clear h2 h3 c3

        go_enter Try.func10, Try.ntmps10
        go_wp2_with fail
        refine (week_any _ _).mono ?_
        rintro en w1 ⟨rfl, hb_w1⟩
        rw [← Hp.out, ← Hf.out, Hx.out]
        have n_w1 := bt ((br _).alloc (Nat.le_refl _) _) hb_w1
        have H_w1 := n_w1
        have k_w1 := boxc (bx hb_w1)
        have l_w1 := boxs (bx hb_w1)
        go_wp2_with fail
        refine (ofWeek_any _ _ _ _).mono ?_
        rintro en w2 ⟨rfl, hb_w2⟩
        rw [← Hb.out, ← Hg.out]
        have n_w2 := bt ((br _).alloc (Nat.le_refl _) _) hb_w2
        have H_w2 := bt H_w1 n_w2
        have k_w1 := kc n_w2 l_w1 k_w1
        have l_w1 := kl n_w2 l_w1
        have k_w2 := boxc (bx hb_w2)
        have l_w2 := boxs (bx hb_w2)
        go_wp2_with fail
        refine (begun_any _).mono ?_
        rintro en w3 ⟨rfl, hb_w3⟩
        have n_w3 := hb_w3
        have H_w3 := bt H_w2 n_w3
        have k_w1 := kc n_w3 l_w1 k_w1
        have l_w1 := kl n_w3 l_w1
        have k_w2 := kc n_w3 l_w2 k_w2
        have l_w2 := kl n_w3 l_w2
        go_wp2
        go_ret
        refine ⟨?_, ?_⟩
        · first | rfl | (simp; done) | simp_all
        · first | exact H_w3 | exact H_w3.alloc H_w3.size _ | exact bn H_w3 _ | exact bn (H_w3.alloc H_w3.size _) _ | exact (bn H_w3 _).alloc H_w3.size _
end Dt
end Go.Proofs.Ytipgnmecahbddaa
