/- The document's functions on persons. -/
import Derived.Test.YtalmjeigfhjhfaaPersonPlain2
import Derived.Test.YtalmjeigfhjhfaaPersonPct
set_option linter.unusedVariables false
namespace Go.Proofs.Ytalmjeigfhjhfaa
open Go.RowKit
namespace Dt
set_option maxHeartbeats 2000000 in
theorem turnDay_any (b a : Int) (w : World) (s1 : 1 ≤ b) (s2 : b ≤ 3652059) (ha : 0 ≤ a) (ha2 : a ≤ 9998) : Calls Try.prog 40 #[.int .i64 b, .int .i64 a] w (IntQ (dayT b a) w) := by
  obtain ⟨y, m, d, hd⟩ : ∃ y m d, dateOf b = (y, m, d) := ⟨_, _, _, rfl⟩
  obtain ⟨v, _⟩ := dateOf_spec b s1 s2
  have hof : ofF b = ((y, m, d), 0) := by unfold ofF; rw [if_pos ⟨s1, s2⟩, hd]
  have hp := dayT_parts s1 s2 ha hd
  rw [hd] at v
  have v : Valid y m d := v
  have hm := min_len (y + a) v
  rw [hm] at hp
  have a1 := v.y1; have a2 := v.y2; have a3 := v.m1; have a4 := v.m2; have a5 := v.d1
  have a6 : d ≤ 31 := Int.le_trans v.d2 (len_bd _ _ v.m1 v.m2).2
  have O := Lib.hid hof
  clear hm hd hof v
  rcases hp with ⟨hy, hp⟩ | ⟨hy, hp⟩
  · have HP := Lib.hid hp; clear hp
    go_enter Try.func40, Try.ntmps40
    go_wp2_with fail
    refine (dateOfR_any b _).mono ?_
    rintro en w1 ⟨rfl, hb1⟩
    rw [O.out]; simp only [aD]
    go_wp2
    go_ret
    exact ⟨by rw [HP.out]; rfl, by first | exact hb1.alloc hb1.size _ | exact bn (hb1.alloc hb1.size _) _⟩
  · rcases (show m ≠ 2 ∨ (m = 2 ∧ d ≠ 29) ∨ (m = 2 ∧ d = 29 ∧ leapB (y + a) = true) ∨ (m = 2 ∧ d = 29 ∧ leapB (y + a) = false) by
      by_cases h1 : m = 2
      · by_cases h2 : d = 29
        · cases h3 : leapB (y + a)
          · exact .inr (.inr (.inr ⟨h1, h2, rfl⟩))
          · exact .inr (.inr (.inl ⟨h1, h2, rfl⟩))
        · exact .inr (.inl ⟨h1, h2⟩)
      · exact .inl h1) with g | ⟨rfl, g⟩ | ⟨rfl, rfl, g⟩ | ⟨rfl, rfl, g⟩
    case' inr.inl => rw [if_neg (fun h => g h.1)] at hp; have q1 : (m == 2) = false := by simp [g]
    case' inr.inr.inl => rw [if_neg (fun h => g h.2.1)] at hp; have q1 : (d == 29) = false := by simp [g]
    case' inr.inr.inr.inl => rw [if_neg (fun h => by rw [g] at h; simp at h)] at hp
    case' inr.inr.inr.inr => rw [if_pos ⟨rfl, rfl, g⟩] at hp
    all_goals
      have HP := Lib.hid hp; clear hp
      go_enter Try.func40, Try.ntmps40
      go_wp2_with fail
      refine (dateOfR_any b _).mono ?_
      rintro en w1 ⟨rfl, hb1⟩
      rw [O.out]; simp only [aD]
      have HB1 := Lib.hid hb1; clear hb1
      go_wp2_with fail
      try
        refine (isLeap_any _ _).mono ?_
        rintro en w2 ⟨rfl, rfl⟩
        rw [g]
        go_wp2_with fail
      refine (dayOfR_any _ _ _ _ (by omega) (by omega) (by omega) (by omega) (by omega) (by omega)).mono ?_
      rintro en w4 ⟨rfl, hb4⟩
      go_wp2
      go_ret
      exact ⟨by rw [HP.out]; rfl, bt (HB1.out.alloc HB1.out.size _) hb4⟩
theorem turnsR_any (b a : Int) (w : World) : Calls Try.prog 17 #[.int .i64 b, .int .i64 a] w (PairQ (turnsF b a) w) := by
  have hF : turnsF b a = if b < 1 ∨ 3652059 < b ∨ a < 0 ∨ 150 < a then (0, 3) else if 3652059 < tn b a then (0, 8) else (tn b a, 0) := rfl
  by_cases hs : isD b = true
  · obtain ⟨s1, s2⟩ := of_decide_eq_true hs
    have HS := Lib.hid hs; clear hs
    rcases (show a < 0 ∨ (0 ≤ a ∧ 150 < a) ∨ (0 ≤ a ∧ a ≤ 150) by omega) with h | ⟨h1, h⟩ | ⟨h1, h⟩
    · rw [if_pos (by omega)] at hF
      have HF := Lib.hid hF; clear hF
      go_enter Try.func17, Try.ntmps17
      go_wp2_with fail
      refine (noDay_any _ _).mono ?_
      rintro en w2 ⟨rfl, rfl⟩
      rw [HS.out]
      go_wp2
      go_ret2
      exact ⟨by rw [HF.out]; rfl, br _⟩
    · rw [if_pos (by omega)] at hF
      have HF := Lib.hid hF; clear hF
      go_enter Try.func17, Try.ntmps17
      go_wp2_with fail
      refine (noDay_any _ _).mono ?_
      rintro en w2 ⟨rfl, rfl⟩
      rw [HS.out]
      go_wp2
      go_ret2
      exact ⟨by rw [HF.out]; rfl, br _⟩
    · have hb := tn_bd s1 s2 h1
      rw [if_neg (by omega)] at hF
      have hD : dayT b a = if 3652059 < tn b a then 0 else tn b a := rfl
      by_cases g : 3652059 < tn b a
      · rw [if_pos g] at hF hD
        have HF := Lib.hid hF; have HD := Lib.hid hD; clear hF hD
        go_enter Try.func17, Try.ntmps17
        go_wp2_with fail
        refine (noDay_any _ _).mono ?_
        rintro en w2 ⟨rfl, rfl⟩
        rw [HS.out]
        go_wp2_with fail
        refine (turnDay_any b a _ s1 s2 h1 (by omega)).mono ?_
        rintro en w3 ⟨rfl, hb3⟩
        rw [HD.out]
        go_wp2
        go_ret2
        exact ⟨by rw [HF.out]; rfl, hb3⟩
      · rw [if_neg g] at hF hD
        have HF := Lib.hid hF; have HD := Lib.hid hD; clear hF hD
        go_enter Try.func17, Try.ntmps17
        go_wp2_with fail
        refine (noDay_any _ _).mono ?_
        rintro en w2 ⟨rfl, rfl⟩
        rw [HS.out]
        go_wp2_with fail
        refine (turnDay_any b a _ s1 s2 h1 (by omega)).mono ?_
        rintro en w3 ⟨rfl, hb3⟩
        rw [HD.out]
        generalize tn b a = R at *
        have hne : (R == 0) = false := by simp; omega
        go_wp2
        go_ret2
        exact ⟨by rw [HF.out]; rfl, hb3⟩
  · have hs' : b < 1 ∨ 3652059 < b := by
      rcases Classical.em (1 ≤ b ∧ b ≤ 3652059) with h | h
      · exact absurd (isD_yes h.1 h.2) hs
      · omega
    rw [if_pos (by omega)] at hF
    have HF := Lib.hid hF; have HS := Lib.hid (isD_no hs'); clear hF hs hs'
    go_enter Try.func17, Try.ntmps17
    go_wp2_with fail
    refine (noDay_any _ _).mono ?_
    rintro en w2 ⟨rfl, rfl⟩
    rw [HS.out]
    go_wp2
    go_ret2
    exact ⟨by rw [HF.out]; rfl, br _⟩
set_option maxHeartbeats 1000000 in
theorem ageR_any (b n : Int) (w : World) : Calls Try.prog 16 #[.int .i64 b, .int .i64 n] w (PairQ (ageF b n) w) := by
  have hF : ageF b n = if b < 1 ∨ 3652059 < b ∨ n < 1 ∨ 3652059 < n then (0, 3) else if n < b then (0, 4) else if ageK b n = 151 then (0, 2) else ((ageK b n : Int), 0) := rfl
  by_cases hs : isD b = true
  · obtain ⟨s1, s2⟩ := of_decide_eq_true hs
    have HS := Lib.hid hs; clear hs
    by_cases hn : isD n = true
    · obtain ⟨m1, m2⟩ := of_decide_eq_true hn
      have HN := Lib.hid hn; clear hn
      rw [if_neg (by omega)] at hF
      by_cases hlt : n < b
      · rw [if_pos hlt] at hF
        have HF := Lib.hid hF; clear hF
        go_enter Try.func16, Try.ntmps16
        go_wp2_with fail
        refine (noDay_any _ _).mono ?_
        rintro en w2 ⟨rfl, rfl⟩
        rw [HS.out]
        go_wp2_with fail
        refine (noDay_any _ _).mono ?_
        rintro en w2 ⟨rfl, rfl⟩
        rw [HN.out]
        go_wp2
        go_ret2
        exact ⟨by rw [HF.out]; rfl, br _⟩
      · clear hF
        have hlt : b ≤ n := by omega
        obtain ⟨A, hA⟩ : ∃ A, A = (dateOf n).1 - (dateOf b).1 := ⟨_, rfl⟩
        obtain ⟨A0, A1, hT, hk⟩ := age_years s1 hlt m2 A hA
        obtain ⟨yb, mb, db, hdb⟩ : ∃ y m d, dateOf b = (y, m, d) := ⟨_, _, _, rfl⟩
        obtain ⟨yn, mn, dn, hdn⟩ : ∃ y m d, dateOf n = (y, m, d) := ⟨_, _, _, rfl⟩
        have O1 := Lib.hid (show ofF b = ((yb, mb, db), 0) by unfold ofF; rw [if_pos ⟨s1, s2⟩, hdb])
        have O2 := Lib.hid (show ofF n = ((yn, mn, dn), 0) by unfold ofF; rw [if_pos ⟨m1, m2⟩, hdn])
        obtain ⟨v, _⟩ := dateOf_spec b s1 s2
        obtain ⟨u, _⟩ := dateOf_spec n m1 m2
        have y1 : 1 ≤ yb := by have := v.y1; rw [hdb] at this; exact this
        have y2 : yb ≤ 9999 := by have := v.y2; rw [hdb] at this; exact this
        have z1 : 1 ≤ yn := by have := u.y1; rw [hdn] at this; exact this
        have z2 : yn ≤ 9999 := by have := u.y2; rw [hdn] at this; exact this
        rw [hdb, hdn] at hA
        have hA2 : yn - yb = A := hA.symm
        have HT := Lib.hid hT
        clear hT hdb hdn v u hA
        rcases hk with ⟨k1, k2⟩ | ⟨k1, k2, k3⟩
        · have hR := age_of_years s1 hlt m2 A A0 k1 k2
          have hg : ¬ n < tn b A := by omega
          generalize tn b A = R at *
          clear k2
          by_cases h150 : 150 < A
          · rw [if_pos h150] at hR
            have HR := Lib.hid hR; clear hR
            go_enter Try.func16, Try.ntmps16
            go_wp2_with fail
            refine (noDay_any _ _).mono ?_
            rintro en w2 ⟨rfl, rfl⟩
            rw [HS.out]
            go_wp2_with fail
            refine (noDay_any _ _).mono ?_
            rintro en w2 ⟨rfl, rfl⟩
            rw [HN.out]

            go_wp2_with fail
            refine (dateOfR_any _ _).mono ?_
            rintro en w3 ⟨rfl, hb_w3⟩
            rw [O1.out]; simp only [aD]
            have n_w3 := hb_w3
            have H_w3 := n_w3
            go_wp2_with fail
            refine (dateOfR_any _ _).mono ?_
            rintro en w4 ⟨rfl, hb_w4⟩
            rw [O2.out]; simp only [aD]
            have n_w4 := bt ((br _).alloc (Nat.le_refl _) _) hb_w4
            have H_w4 := bt H_w3 n_w4
            have k_w4 := boxc (bx hb_w4)
            have l_w4 := boxs (bx hb_w4)
            go_wp2_with fail
            have c10 := k_w4 0
            simp only [List.getElem?_toArray, List.getElem?_cons_zero] at c10
            try go_quiet (fail)
            go_wp2_with fail
            refine (turnDay_any b A _ s1 s2 A0 A1).mono ?_
            rintro en w5 ⟨rfl, hb5⟩
            rw [HT.out]
            have HE := Lib.hid (bt (H_w4.alloc H_w4.size _) hb5)
            go_wp2
            go_ret2
            exact ⟨by rw [HR.out]; rfl, by first | exact HE.out | exact bn HE.out _⟩
          · rw [if_neg h150] at hR
            have HR := Lib.hid hR; clear hR
            go_enter Try.func16, Try.ntmps16
            go_wp2_with fail
            refine (noDay_any _ _).mono ?_
            rintro en w2 ⟨rfl, rfl⟩
            rw [HS.out]
            go_wp2_with fail
            refine (noDay_any _ _).mono ?_
            rintro en w2 ⟨rfl, rfl⟩
            rw [HN.out]

            go_wp2_with fail
            refine (dateOfR_any _ _).mono ?_
            rintro en w3 ⟨rfl, hb_w3⟩
            rw [O1.out]; simp only [aD]
            have n_w3 := hb_w3
            have H_w3 := n_w3
            go_wp2_with fail
            refine (dateOfR_any _ _).mono ?_
            rintro en w4 ⟨rfl, hb_w4⟩
            rw [O2.out]; simp only [aD]
            have n_w4 := bt ((br _).alloc (Nat.le_refl _) _) hb_w4
            have H_w4 := bt H_w3 n_w4
            have k_w4 := boxc (bx hb_w4)
            have l_w4 := boxs (bx hb_w4)
            go_wp2_with fail
            have c10 := k_w4 0
            simp only [List.getElem?_toArray, List.getElem?_cons_zero] at c10
            try go_quiet (fail)
            go_wp2_with fail
            refine (turnDay_any b A _ s1 s2 A0 A1).mono ?_
            rintro en w5 ⟨rfl, hb5⟩
            rw [HT.out]
            have HE := Lib.hid (bt (H_w4.alloc H_w4.size _) hb5)
            go_wp2
            go_ret2
            exact ⟨by rw [HR.out]; rfl, by first | exact HE.out | exact bn HE.out _⟩
        · have hR := age_of_years s1 hlt m2 (A - 1) (by omega) k3 (by rw [show A - 1 + 1 = A by omega]; exact k1)
          generalize tn b A = R at *
          clear k3
          by_cases h150 : 150 < A - 1
          · rw [if_pos h150] at hR
            have HR := Lib.hid hR; clear hR
            go_enter Try.func16, Try.ntmps16
            go_wp2_with fail
            refine (noDay_any _ _).mono ?_
            rintro en w2 ⟨rfl, rfl⟩
            rw [HS.out]
            go_wp2_with fail
            refine (noDay_any _ _).mono ?_
            rintro en w2 ⟨rfl, rfl⟩
            rw [HN.out]

            go_wp2_with fail
            refine (dateOfR_any _ _).mono ?_
            rintro en w3 ⟨rfl, hb_w3⟩
            rw [O1.out]; simp only [aD]
            have n_w3 := hb_w3
            have H_w3 := n_w3
            go_wp2_with fail
            refine (dateOfR_any _ _).mono ?_
            rintro en w4 ⟨rfl, hb_w4⟩
            rw [O2.out]; simp only [aD]
            have n_w4 := bt ((br _).alloc (Nat.le_refl _) _) hb_w4
            have H_w4 := bt H_w3 n_w4
            have k_w4 := boxc (bx hb_w4)
            have l_w4 := boxs (bx hb_w4)
            go_wp2_with fail
            have c10 := k_w4 0
            simp only [List.getElem?_toArray, List.getElem?_cons_zero] at c10
            try go_quiet (fail)
            go_wp2_with fail
            refine (turnDay_any b A _ s1 s2 A0 A1).mono ?_
            rintro en w5 ⟨rfl, hb5⟩
            rw [HT.out]
            have HE := Lib.hid (bt (H_w4.alloc H_w4.size _) hb5)
            go_wp2
            go_ret2
            exact ⟨by rw [HR.out]; rfl, by first | exact HE.out | exact bn HE.out _⟩
          · rw [if_neg h150] at hR
            have HR := Lib.hid hR; clear hR
            go_enter Try.func16, Try.ntmps16
            go_wp2_with fail
            refine (noDay_any _ _).mono ?_
            rintro en w2 ⟨rfl, rfl⟩
            rw [HS.out]
            go_wp2_with fail
            refine (noDay_any _ _).mono ?_
            rintro en w2 ⟨rfl, rfl⟩
            rw [HN.out]

            go_wp2_with fail
            refine (dateOfR_any _ _).mono ?_
            rintro en w3 ⟨rfl, hb_w3⟩
            rw [O1.out]; simp only [aD]
            have n_w3 := hb_w3
            have H_w3 := n_w3
            go_wp2_with fail
            refine (dateOfR_any _ _).mono ?_
            rintro en w4 ⟨rfl, hb_w4⟩
            rw [O2.out]; simp only [aD]
            have n_w4 := bt ((br _).alloc (Nat.le_refl _) _) hb_w4
            have H_w4 := bt H_w3 n_w4
            have k_w4 := boxc (bx hb_w4)
            have l_w4 := boxs (bx hb_w4)
            go_wp2_with fail
            have c10 := k_w4 0
            simp only [List.getElem?_toArray, List.getElem?_cons_zero] at c10
            try go_quiet (fail)
            go_wp2_with fail
            refine (turnDay_any b A _ s1 s2 A0 A1).mono ?_
            rintro en w5 ⟨rfl, hb5⟩
            rw [HT.out]
            have HE := Lib.hid (bt (H_w4.alloc H_w4.size _) hb5)
            go_wp2
            go_ret2
            exact ⟨by rw [HR.out]; rfl, by first | exact HE.out | exact bn HE.out _⟩
    · have hn' : n < 1 ∨ 3652059 < n := by
        rcases Classical.em (1 ≤ n ∧ n ≤ 3652059) with h | h
        · exact absurd (isD_yes h.1 h.2) hn
        · omega
      rw [if_pos (by omega)] at hF
      have HF := Lib.hid hF; have HN := Lib.hid (isD_no hn'); clear hF hn hn'
      go_enter Try.func16, Try.ntmps16
      go_wp2_with fail
      refine (noDay_any _ _).mono ?_
      rintro en w2 ⟨rfl, rfl⟩
      rw [HS.out]
      go_wp2_with fail
      refine (noDay_any _ _).mono ?_
      rintro en w2 ⟨rfl, rfl⟩
      rw [HN.out]
      go_wp2
      go_ret2
      exact ⟨by rw [HF.out]; rfl, br _⟩
  · have hs' : b < 1 ∨ 3652059 < b := by
      rcases Classical.em (1 ≤ b ∧ b ≤ 3652059) with h | h
      · exact absurd (isD_yes h.1 h.2) hs
      · omega
    rw [if_pos (by omega)] at hF
    have HF := Lib.hid hF; have HS := Lib.hid (isD_no hs'); clear hF hs hs'
    go_enter Try.func16, Try.ntmps16
    go_wp2_with fail
    refine (noDay_any _ _).mono ?_
    rintro en w2 ⟨rfl, rfl⟩
    rw [HS.out]
    go_wp2
    go_ret2
    exact ⟨by rw [HF.out]; rfl, br _⟩
end Dt
end Go.Proofs.Ytalmjeigfhjhfaa
