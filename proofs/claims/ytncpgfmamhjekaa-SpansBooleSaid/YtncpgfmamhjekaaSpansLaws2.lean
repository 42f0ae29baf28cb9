/- Sets of days: SpansHas, SpansBoole, SpansSize. (gen_spans7.py) -/
import Derived.Test.YtncpgfmamhjekaaSpansLaws
import Derived.Test.YtncpgfmamhjekaaSpansPlain3
set_option linter.unusedSimpArgs false
set_option linter.unusedVariables false
namespace Go.Proofs.Ytncpgfmamhjekaa
open Go.RowKit
namespace Sn
theorem oc_op (op : Int) (hop : op = 0 ∨ op = 1 ∨ op = 2) (a b : List Sp) (n : Int) : bothE op a b ≠ 0 ∨ (bothE op a b = 0 ∧ chkS (bothR op a b) = 0 ∧ hasB (bothR op a b) n = opB op (has a n) (has b n)) := by
  by_cases h : bothE op a b = 0
  · obtain ⟨h1, _, h3⟩ := both_ok h
    exact .inr ⟨h, h1, by unfold hasB; rw [if_pos h1, h3]⟩
  · exact .inl h
set_option maxRecDepth 100000 in
set_option maxHeartbeats 16000000 in
theorem hasL_walk (va vb : Value) (a b : List Sp) (n : Int) (w : World) (ha : RdE elS w va a) (hb : RdE elS w vb b) : Calls Try.prog 5 #[va, vb, .int .i64 n] w (BoolQ true w) := by
  have HA := Lib.hid ha; have HB := Lib.hid hb
  have C0 := Lib.hid (fun v u w h g => union_any v u a b w h g)
  have C1 := Lib.hid (fun v u w h g => meet_any v u a b w h g)
  have C2 := Lib.hid (fun v u w h g => minus_any v u a b w h g)
  have CB := Lib.hid begun_any
  have CK := Lib.hid (fun v w h => check_any v a w h)
  have CL := Lib.hid (fun v w h => check_any v b w h)
  have HDA := Lib.hid (fun v w h => hasDay_b v a n w h)
  have HDB := Lib.hid (fun v w h => hasDay_b v b n w h)
  have K0 := Lib.hid (fun v w h => has_fn v (bothR 0 a b) n w h)
  have K1 := Lib.hid (fun v w h => has_fn v (bothR 1 a b) n w h)
  have K2 := Lib.hid (fun v w h => has_fn v (bothR 2 a b) n w h)
  have O0 := oc_op 0 (by omega) a b n
  have O1 := oc_op 1 (by omega) a b n
  have O2 := oc_op 2 (by omega) a b n
  have BAD := Lib.hid (fun op => @bothE_bad op a b)
  obtain ⟨aa, ca, rfl, _, _, _⟩ := ha
  obtain ⟨ab, cb, rfl, _, _, _⟩ := hb
  by_cases ka : chkS a = 0
  · rw [ka] at CK
    by_cases kb : chkS b = 0
    · rw [kb] at CL
      clear BAD
      generalize has a n = x at *; generalize has b n = y at *
      generalize hasB (bothR 0 a b) n = t0 at *; generalize hasB (bothR 1 a b) n = t1 at *; generalize hasB (bothR 2 a b) n = t2 at *
      generalize chkS (bothR 0 a b) = k0 at *; generalize chkS (bothR 1 a b) = k1 at *; generalize chkS (bothR 2 a b) = k2 at *
      generalize bothE 0 a b = E0 at *; generalize bothE 1 a b = E1 at *; generalize bothE 2 a b = E2 at *
      generalize bothR 0 a b = R0 at *; generalize bothR 1 a b = R1 at *; generalize bothR 2 a b = R2 at *
      have HO0 := Lib.hid O0; have HO1 := Lib.hid O1; have HO2 := Lib.hid O2
      clear O0 O1 O2 ka kb
      go_enter Try.func5, Try.ntmps5
      go_wp2_with fail
      refine (C0.out _ _ _ HA.out HB.out).mono ?_
      rintro en w1 ⟨u1, rfl, o1, b1⟩
      have H_1 := Lib.hid (bt (br w) b1)
      have RA_1 := Lib.hid (HA.out.below b1)
      have RB_1 := Lib.hid (HB.out.below b1)
      have RO1 := Lib.hid o1.rd
      clear o1
      go_wp2_with fail
      refine (C1.out _ _ _ RA_1.out RB_1.out).mono ?_
      rintro en w2 ⟨u2, rfl, o2, b2⟩
      have H_2 := Lib.hid (bt H_1.out b2)
      have RA_2 := Lib.hid (RA_1.out.below b2)
      have RB_2 := Lib.hid (RB_1.out.below b2)
      have RU0_2 := Lib.hid (RO1.out.below b2)
      clear H_1 RA_1 RB_1 RO1
      have RO2 := Lib.hid o2.rd
      clear o2
      go_wp2_with fail
      refine (C2.out _ _ _ RA_2.out RB_2.out).mono ?_
      rintro en w3 ⟨u3, rfl, o3, b3⟩
      have H_3 := Lib.hid (bt H_2.out b3)
      have RA_3 := Lib.hid (RA_2.out.below b3)
      have RB_3 := Lib.hid (RB_2.out.below b3)
      have RU0_3 := Lib.hid (RU0_2.out.below b3)
      have RU1_3 := Lib.hid (RO2.out.below b3)
      clear H_2 RA_2 RB_2 RU0_2 RO2
      have RO3 := Lib.hid o3.rd
      clear o3
      go_wp2_with fail
      refine (CB.out _).mono ?_
      rintro en w4 ⟨rfl, b4⟩
      have H_4 := Lib.hid (bt H_3.out b4)
      have RA_4 := Lib.hid (RA_3.out.below b4)
      have RB_4 := Lib.hid (RB_3.out.below b4)
      have RU0_4 := Lib.hid (RU0_3.out.below b4)
      have RU1_4 := Lib.hid (RU1_3.out.below b4)
      have RU2_4 := Lib.hid (RO3.out.below b4)
      clear H_3 RA_3 RB_3 RU0_3 RU1_3 RO3
      go_wp2_with fail
      refine (CK.out _ _ RA_4.out).mono ?_
      rintro en w5 ⟨rfl, b5⟩
      have H_5 := Lib.hid (bt H_4.out b5)
      have RA_5 := Lib.hid (RA_4.out.below b5)
      have RB_5 := Lib.hid (RB_4.out.below b5)
      have RU0_5 := Lib.hid (RU0_4.out.below b5)
      have RU1_5 := Lib.hid (RU1_4.out.below b5)
      have RU2_5 := Lib.hid (RU2_4.out.below b5)
      clear H_4 RA_4 RB_4 RU0_4 RU1_4 RU2_4
      go_wp2_with fail
      refine (CL.out _ _ RB_5.out).mono ?_
      rintro en w6 ⟨rfl, b6⟩
      have H_6 := Lib.hid (bt H_5.out b6)
      have RA_6 := Lib.hid (RA_5.out.below b6)
      have RB_6 := Lib.hid (RB_5.out.below b6)
      have RU0_6 := Lib.hid (RU0_5.out.below b6)
      have RU1_6 := Lib.hid (RU1_5.out.below b6)
      have RU2_6 := Lib.hid (RU2_5.out.below b6)
      clear H_5 RA_5 RB_5 RU0_5 RU1_5 RU2_5
      go_wp2_with fail
      refine (HDA.out _ _ RA_6.out).mono ?_
      rintro en w7 ⟨rfl, b7⟩
      have H_7 := Lib.hid (bt H_6.out b7)
      have RA_7 := Lib.hid (RA_6.out.below b7)
      have RB_7 := Lib.hid (RB_6.out.below b7)
      have RU0_7 := Lib.hid (RU0_6.out.below b7)
      have RU1_7 := Lib.hid (RU1_6.out.below b7)
      have RU2_7 := Lib.hid (RU2_6.out.below b7)
      clear H_6 RA_6 RB_6 RU0_6 RU1_6 RU2_6
      go_wp2_with fail
      refine (HDB.out _ _ RB_7.out).mono ?_
      rintro en w8 ⟨rfl, b8⟩
      have H_8 := Lib.hid (bt H_7.out b8)
      have RA_8 := Lib.hid (RA_7.out.below b8)
      have RB_8 := Lib.hid (RB_7.out.below b8)
      have RU0_8 := Lib.hid (RU0_7.out.below b8)
      have RU1_8 := Lib.hid (RU1_7.out.below b8)
      have RU2_8 := Lib.hid (RU2_7.out.below b8)
      clear H_7 RA_7 RB_7 RU0_7 RU1_7 RU2_7
      clear RA_8
      clear RB_8
      go_wp2_with fail
      refine (K0.out _ _ RU0_8.out).mono ?_
      rintro en w9 ⟨rfl, b9⟩
      have H_9 := Lib.hid (bt H_8.out b9)
      have RU0_9 := Lib.hid (RU0_8.out.below b9)
      have RU1_9 := Lib.hid (RU1_8.out.below b9)
      have RU2_9 := Lib.hid (RU2_8.out.below b9)
      clear H_8 RU0_8 RU1_8 RU2_8
      clear RU0_9
      go_wp2_with fail
      refine (K1.out _ _ RU1_9.out).mono ?_
      rintro en w10 ⟨rfl, b10⟩
      have H_10 := Lib.hid (bt H_9.out b10)
      have RU1_10 := Lib.hid (RU1_9.out.below b10)
      have RU2_10 := Lib.hid (RU2_9.out.below b10)
      clear H_9 RU1_9 RU2_9
      clear RU1_10
      go_wp2_with fail
      refine (K2.out _ _ RU2_10.out).mono ?_
      rintro en w11 ⟨rfl, b11⟩
      have H_11 := Lib.hid (bt H_10.out b11)
      have RU2_11 := Lib.hid (RU2_10.out.below b11)
      clear H_10 RU2_10
      clear RU2_11
      have q0 : E0 ≠ 0 ∨ (E0 = 0 ∧ k0 = 0 ∧ t0 = (x || y)) := by rcases HO0.out with h | ⟨h1, h2, h3⟩; exact .inl h; exact .inr ⟨h1, h2, by rw [h3]; cases x <;> cases y <;> rfl⟩
      have q1 : E1 ≠ 0 ∨ (E1 = 0 ∧ k1 = 0 ∧ t1 = (x && y)) := by rcases HO1.out with h | ⟨h1, h2, h3⟩; exact .inl h; exact .inr ⟨h1, h2, by rw [h3]; cases x <;> cases y <;> rfl⟩
      have q2 : E2 ≠ 0 ∨ (E2 = 0 ∧ k2 = 0 ∧ t2 = (x && !y)) := by rcases HO2.out with h | ⟨h1, h2, h3⟩; exact .inl h; exact .inr ⟨h1, h2, by rw [h3]; cases x <;> cases y <;> rfl⟩
      clear HO0 HO1 HO2 C0 C1 C2 CB CK CL HDA HDB K0 K1 K2
      rcases q0 with q0 | ⟨rfl, rfl, rfl⟩ <;> rcases q1 with q1 | ⟨rfl, rfl, rfl⟩ <;> rcases q2 with q2 | ⟨rfl, rfl, rfl⟩ <;> cases x <;> cases y
      all_goals
        try (have z0 : (E0 != 0) = true := by simp [q0])
        try (have z1 : (E1 != 0) = true := by simp [q1])
        try (have z2 : (E2 != 0) = true := by simp [q2])
        go_wp2
        go_ret
        exact ⟨by first | rfl | (simp; done), H_11.out⟩
    · have b0 := BAD.out 0 (.inr kb); have b1 := BAD.out 1 (.inr kb); have b2 := BAD.out 2 (.inr kb)
      clear BAD O0 O1 O2 K0 K1 K2
      generalize bothE 0 a b = E0 at *; generalize bothE 1 a b = E1 at *; generalize bothE 2 a b = E2 at *
      generalize bothR 0 a b = R0 at *; generalize bothR 1 a b = R1 at *; generalize bothR 2 a b = R2 at *
      generalize chkS b = kb2 at *
      have z0 : (E0 != 0) = true := by simp [b0]
      have z1 : (E1 != 0) = true := by simp [b1]
      have z2 : (E2 != 0) = true := by simp [b2]
      have z3 : (kb2 != 0) = true := by simp [kb]
      clear b0 b1 b2 ka kb
      go_enter Try.func5, Try.ntmps5
      go_wp2_with fail
      refine (C0.out _ _ _ HA.out HB.out).mono ?_
      rintro en w1 ⟨u1, rfl, o1, b1⟩
      have H_1 := Lib.hid (bt (br w) b1)
      have RA_1 := Lib.hid (HA.out.below b1)
      have RB_1 := Lib.hid (HB.out.below b1)
      have RO1 := Lib.hid o1.rd
      clear o1
      go_wp2_with fail
      refine (C1.out _ _ _ RA_1.out RB_1.out).mono ?_
      rintro en w2 ⟨u2, rfl, o2, b2⟩
      have H_2 := Lib.hid (bt H_1.out b2)
      have RA_2 := Lib.hid (RA_1.out.below b2)
      have RB_2 := Lib.hid (RB_1.out.below b2)
      have RU0_2 := Lib.hid (RO1.out.below b2)
      clear H_1 RA_1 RB_1 RO1
      have RO2 := Lib.hid o2.rd
      clear o2
      go_wp2_with fail
      refine (C2.out _ _ _ RA_2.out RB_2.out).mono ?_
      rintro en w3 ⟨u3, rfl, o3, b3⟩
      have H_3 := Lib.hid (bt H_2.out b3)
      have RA_3 := Lib.hid (RA_2.out.below b3)
      have RB_3 := Lib.hid (RB_2.out.below b3)
      have RU0_3 := Lib.hid (RU0_2.out.below b3)
      have RU1_3 := Lib.hid (RO2.out.below b3)
      clear H_2 RA_2 RB_2 RU0_2 RO2
      have RO3 := Lib.hid o3.rd
      clear o3
      go_wp2_with fail
      refine (CB.out _).mono ?_
      rintro en w4 ⟨rfl, b4⟩
      have H_4 := Lib.hid (bt H_3.out b4)
      have RA_4 := Lib.hid (RA_3.out.below b4)
      have RB_4 := Lib.hid (RB_3.out.below b4)
      have RU0_4 := Lib.hid (RU0_3.out.below b4)
      have RU1_4 := Lib.hid (RU1_3.out.below b4)
      have RU2_4 := Lib.hid (RO3.out.below b4)
      clear H_3 RA_3 RB_3 RU0_3 RU1_3 RO3
      go_wp2_with fail
      refine (CK.out _ _ RA_4.out).mono ?_
      rintro en w5 ⟨rfl, b5⟩
      have H_5 := Lib.hid (bt H_4.out b5)
      have RA_5 := Lib.hid (RA_4.out.below b5)
      have RB_5 := Lib.hid (RB_4.out.below b5)
      have RU0_5 := Lib.hid (RU0_4.out.below b5)
      have RU1_5 := Lib.hid (RU1_4.out.below b5)
      have RU2_5 := Lib.hid (RU2_4.out.below b5)
      clear H_4 RA_4 RB_4 RU0_4 RU1_4 RU2_4
      go_wp2_with fail
      refine (CL.out _ _ RB_5.out).mono ?_
      rintro en w6 ⟨rfl, b6⟩
      have H_6 := Lib.hid (bt H_5.out b6)
      have RA_6 := Lib.hid (RA_5.out.below b6)
      have RB_6 := Lib.hid (RB_5.out.below b6)
      have RU0_6 := Lib.hid (RU0_5.out.below b6)
      have RU1_6 := Lib.hid (RU1_5.out.below b6)
      have RU2_6 := Lib.hid (RU2_5.out.below b6)
      clear H_5 RA_5 RB_5 RU0_5 RU1_5 RU2_5
      go_wp2
      go_ret
      exact ⟨by first | rfl | (simp; done), H_6.out⟩
  · have b0 := BAD.out 0 (.inl ka); have b1 := BAD.out 1 (.inl ka); have b2 := BAD.out 2 (.inl ka)
    clear BAD O0 O1 O2 K0 K1 K2
    generalize bothE 0 a b = E0 at *; generalize bothE 1 a b = E1 at *; generalize bothE 2 a b = E2 at *
    generalize bothR 0 a b = R0 at *; generalize bothR 1 a b = R1 at *; generalize bothR 2 a b = R2 at *
    generalize chkS a = kb2 at *
    have z0 : (E0 != 0) = true := by simp [b0]
    have z1 : (E1 != 0) = true := by simp [b1]
    have z2 : (E2 != 0) = true := by simp [b2]
    have z3 : (kb2 != 0) = true := by simp [ka]
    clear b0 b1 b2 ka
    go_enter Try.func5, Try.ntmps5
    go_wp2_with fail
    refine (C0.out _ _ _ HA.out HB.out).mono ?_
    rintro en w1 ⟨u1, rfl, o1, b1⟩
    have H_1 := Lib.hid (bt (br w) b1)
    have RA_1 := Lib.hid (HA.out.below b1)
    have RB_1 := Lib.hid (HB.out.below b1)
    have RO1 := Lib.hid o1.rd
    clear o1
    go_wp2_with fail
    refine (C1.out _ _ _ RA_1.out RB_1.out).mono ?_
    rintro en w2 ⟨u2, rfl, o2, b2⟩
    have H_2 := Lib.hid (bt H_1.out b2)
    have RA_2 := Lib.hid (RA_1.out.below b2)
    have RB_2 := Lib.hid (RB_1.out.below b2)
    have RU0_2 := Lib.hid (RO1.out.below b2)
    clear H_1 RA_1 RB_1 RO1
    have RO2 := Lib.hid o2.rd
    clear o2
    go_wp2_with fail
    refine (C2.out _ _ _ RA_2.out RB_2.out).mono ?_
    rintro en w3 ⟨u3, rfl, o3, b3⟩
    have H_3 := Lib.hid (bt H_2.out b3)
    have RA_3 := Lib.hid (RA_2.out.below b3)
    have RB_3 := Lib.hid (RB_2.out.below b3)
    have RU0_3 := Lib.hid (RU0_2.out.below b3)
    have RU1_3 := Lib.hid (RO2.out.below b3)
    clear H_2 RA_2 RB_2 RU0_2 RO2
    have RO3 := Lib.hid o3.rd
    clear o3
    go_wp2_with fail
    refine (CB.out _).mono ?_
    rintro en w4 ⟨rfl, b4⟩
    have H_4 := Lib.hid (bt H_3.out b4)
    have RA_4 := Lib.hid (RA_3.out.below b4)
    have RB_4 := Lib.hid (RB_3.out.below b4)
    have RU0_4 := Lib.hid (RU0_3.out.below b4)
    have RU1_4 := Lib.hid (RU1_3.out.below b4)
    have RU2_4 := Lib.hid (RO3.out.below b4)
    clear H_3 RA_3 RB_3 RU0_3 RU1_3 RO3
    go_wp2_with fail
    refine (CK.out _ _ RA_4.out).mono ?_
    rintro en w5 ⟨rfl, b5⟩
    have H_5 := Lib.hid (bt H_4.out b5)
    have RA_5 := Lib.hid (RA_4.out.below b5)
    have RB_5 := Lib.hid (RB_4.out.below b5)
    have RU0_5 := Lib.hid (RU0_4.out.below b5)
    have RU1_5 := Lib.hid (RU1_4.out.below b5)
    have RU2_5 := Lib.hid (RU2_4.out.below b5)
    clear H_4 RA_4 RB_4 RU0_4 RU1_4 RU2_4
    go_wp2
    go_ret
    exact ⟨by first | rfl | (simp; done), H_5.out⟩
set_option maxRecDepth 100000 in
set_option maxHeartbeats 16000000 in
theorem size_walk (va vb : Value) (a b : List Sp) (w : World) (ha : RdE elS w va a) (hb : RdE elS w vb b) : Calls Try.prog 8 #[va, vb] w (BoolQ true w) := by
  have HA := Lib.hid ha; have HB := Lib.hid hb
  have C0 := Lib.hid (fun v u w h g => union_any v u a b w h g)
  have C1 := Lib.hid (fun v u w h g => meet_any v u a b w h g)
  have C2 := Lib.hid (fun v u w h g => minus_any v u a b w h g)
  have CB := Lib.hid begun_any
  have ZA := Lib.hid (fun v w h => size_any v a w h)
  have ZB := Lib.hid (fun v w h => size_any v b w h)
  have Z0 := Lib.hid (fun v w h => size_any v (bothR 0 a b) w h)
  have Z1 := Lib.hid (fun v w h => size_any v (bothR 1 a b) w h)
  have Z2 := Lib.hid (fun v w h => size_any v (bothR 2 a b) w h)
  obtain ⟨aa, ca, rfl, _, _, _⟩ := id ha
  obtain ⟨ab, cb, rfl, _, _, _⟩ := id hb
  clear ha hb
  by_cases h0 : bothE 0 a b = 0
  case neg =>
    generalize bothE 0 a b = E0 at *; generalize bothE 1 a b = E1 at *; generalize bothE 2 a b = E2 at *
    generalize bothR 0 a b = R0 at *; generalize bothR 1 a b = R1 at *; generalize bothR 2 a b = R2 at *
    have z0 : (E0 != 0) = true := by simp [h0]
    clear Z0 Z1 Z2 ZA ZB h0
    go_enter Try.func8, Try.ntmps8
    go_wp2_with fail
    refine (C0.out _ _ _ HA.out HB.out).mono ?_
    rintro en w1 ⟨u1, rfl, o1, b1⟩
    have H_1 := Lib.hid (bt (br w) b1)
    have RA_1 := Lib.hid (HA.out.below b1)
    have RB_1 := Lib.hid (HB.out.below b1)
    have RO1 := Lib.hid o1.rd
    clear o1
    go_wp2_with fail
    refine (C1.out _ _ _ RA_1.out RB_1.out).mono ?_
    rintro en w2 ⟨u2, rfl, o2, b2⟩
    have H_2 := Lib.hid (bt H_1.out b2)
    have RA_2 := Lib.hid (RA_1.out.below b2)
    have RB_2 := Lib.hid (RB_1.out.below b2)
    have RU0_2 := Lib.hid (RO1.out.below b2)
    clear H_1 RA_1 RB_1 RO1
    have RO2 := Lib.hid o2.rd
    clear o2
    go_wp2_with fail
    refine (C2.out _ _ _ RA_2.out RB_2.out).mono ?_
    rintro en w3 ⟨u3, rfl, o3, b3⟩
    have H_3 := Lib.hid (bt H_2.out b3)
    have RA_3 := Lib.hid (RA_2.out.below b3)
    have RB_3 := Lib.hid (RB_2.out.below b3)
    have RU0_3 := Lib.hid (RU0_2.out.below b3)
    have RU1_3 := Lib.hid (RO2.out.below b3)
    clear H_2 RA_2 RB_2 RU0_2 RO2
    have RO3 := Lib.hid o3.rd
    clear o3
    go_wp2_with fail
    refine (CB.out _).mono ?_
    rintro en w4 ⟨rfl, b4⟩
    have H_4 := Lib.hid (bt H_3.out b4)
    have RA_4 := Lib.hid (RA_3.out.below b4)
    have RB_4 := Lib.hid (RB_3.out.below b4)
    have RU0_4 := Lib.hid (RU0_3.out.below b4)
    have RU1_4 := Lib.hid (RU1_3.out.below b4)
    have RU2_4 := Lib.hid (RO3.out.below b4)
    clear H_3 RA_3 RB_3 RU0_3 RU1_3 RO3
    clear RA_4
    clear RB_4
    clear RU0_4
    clear RU1_4
    clear RU2_4
    go_wp2
    go_ret
    exact ⟨by first | rfl | (simp; done), H_4.out⟩
  by_cases h1 : bothE 1 a b = 0
  case neg =>
    generalize bothE 0 a b = E0 at *; generalize bothE 1 a b = E1 at *; generalize bothE 2 a b = E2 at *
    generalize bothR 0 a b = R0 at *; generalize bothR 1 a b = R1 at *; generalize bothR 2 a b = R2 at *
    have z1 : (E1 != 0) = true := by simp [h1]
    clear Z0 Z1 Z2 ZA ZB h1
    go_enter Try.func8, Try.ntmps8
    go_wp2_with fail
    refine (C0.out _ _ _ HA.out HB.out).mono ?_
    rintro en w1 ⟨u1, rfl, o1, b1⟩
    have H_1 := Lib.hid (bt (br w) b1)
    have RA_1 := Lib.hid (HA.out.below b1)
    have RB_1 := Lib.hid (HB.out.below b1)
    have RO1 := Lib.hid o1.rd
    clear o1
    go_wp2_with fail
    refine (C1.out _ _ _ RA_1.out RB_1.out).mono ?_
    rintro en w2 ⟨u2, rfl, o2, b2⟩
    have H_2 := Lib.hid (bt H_1.out b2)
    have RA_2 := Lib.hid (RA_1.out.below b2)
    have RB_2 := Lib.hid (RB_1.out.below b2)
    have RU0_2 := Lib.hid (RO1.out.below b2)
    clear H_1 RA_1 RB_1 RO1
    have RO2 := Lib.hid o2.rd
    clear o2
    go_wp2_with fail
    refine (C2.out _ _ _ RA_2.out RB_2.out).mono ?_
    rintro en w3 ⟨u3, rfl, o3, b3⟩
    have H_3 := Lib.hid (bt H_2.out b3)
    have RA_3 := Lib.hid (RA_2.out.below b3)
    have RB_3 := Lib.hid (RB_2.out.below b3)
    have RU0_3 := Lib.hid (RU0_2.out.below b3)
    have RU1_3 := Lib.hid (RO2.out.below b3)
    clear H_2 RA_2 RB_2 RU0_2 RO2
    have RO3 := Lib.hid o3.rd
    clear o3
    go_wp2_with fail
    refine (CB.out _).mono ?_
    rintro en w4 ⟨rfl, b4⟩
    have H_4 := Lib.hid (bt H_3.out b4)
    have RA_4 := Lib.hid (RA_3.out.below b4)
    have RB_4 := Lib.hid (RB_3.out.below b4)
    have RU0_4 := Lib.hid (RU0_3.out.below b4)
    have RU1_4 := Lib.hid (RU1_3.out.below b4)
    have RU2_4 := Lib.hid (RO3.out.below b4)
    clear H_3 RA_3 RB_3 RU0_3 RU1_3 RO3
    clear RA_4
    clear RB_4
    clear RU0_4
    clear RU1_4
    clear RU2_4
    have z0 : (E0 != 0) = false := by simp [h0]
    go_wp2
    go_ret
    exact ⟨by first | rfl | (simp; done), H_4.out⟩
  by_cases h2 : bothE 2 a b = 0
  case neg =>
    generalize bothE 0 a b = E0 at *; generalize bothE 1 a b = E1 at *; generalize bothE 2 a b = E2 at *
    generalize bothR 0 a b = R0 at *; generalize bothR 1 a b = R1 at *; generalize bothR 2 a b = R2 at *
    have z2 : (E2 != 0) = true := by simp [h2]
    clear Z0 Z1 Z2 ZA ZB h2
    go_enter Try.func8, Try.ntmps8
    go_wp2_with fail
    refine (C0.out _ _ _ HA.out HB.out).mono ?_
    rintro en w1 ⟨u1, rfl, o1, b1⟩
    have H_1 := Lib.hid (bt (br w) b1)
    have RA_1 := Lib.hid (HA.out.below b1)
    have RB_1 := Lib.hid (HB.out.below b1)
    have RO1 := Lib.hid o1.rd
    clear o1
    go_wp2_with fail
    refine (C1.out _ _ _ RA_1.out RB_1.out).mono ?_
    rintro en w2 ⟨u2, rfl, o2, b2⟩
    have H_2 := Lib.hid (bt H_1.out b2)
    have RA_2 := Lib.hid (RA_1.out.below b2)
    have RB_2 := Lib.hid (RB_1.out.below b2)
    have RU0_2 := Lib.hid (RO1.out.below b2)
    clear H_1 RA_1 RB_1 RO1
    have RO2 := Lib.hid o2.rd
    clear o2
    go_wp2_with fail
    refine (C2.out _ _ _ RA_2.out RB_2.out).mono ?_
    rintro en w3 ⟨u3, rfl, o3, b3⟩
    have H_3 := Lib.hid (bt H_2.out b3)
    have RA_3 := Lib.hid (RA_2.out.below b3)
    have RB_3 := Lib.hid (RB_2.out.below b3)
    have RU0_3 := Lib.hid (RU0_2.out.below b3)
    have RU1_3 := Lib.hid (RO2.out.below b3)
    clear H_2 RA_2 RB_2 RU0_2 RO2
    have RO3 := Lib.hid o3.rd
    clear o3
    go_wp2_with fail
    refine (CB.out _).mono ?_
    rintro en w4 ⟨rfl, b4⟩
    have H_4 := Lib.hid (bt H_3.out b4)
    have RA_4 := Lib.hid (RA_3.out.below b4)
    have RB_4 := Lib.hid (RB_3.out.below b4)
    have RU0_4 := Lib.hid (RU0_3.out.below b4)
    have RU1_4 := Lib.hid (RU1_3.out.below b4)
    have RU2_4 := Lib.hid (RO3.out.below b4)
    clear H_3 RA_3 RB_3 RU0_3 RU1_3 RO3
    clear RA_4
    clear RB_4
    clear RU0_4
    clear RU1_4
    clear RU2_4
    have z0 : (E0 != 0) = false := by simp [h0]
    have z1 : (E1 != 0) = false := by simp [h1]
    go_wp2
    go_ret
    exact ⟨by first | rfl | (simp; done), H_4.out⟩
  obtain ⟨d1, d2⟩ := days_all h0 h1 h2
  obtain ⟨ka, kb, _⟩ := both_parts h0
  have g0 := days_ge (both_ok h0).1; have g1 := days_ge (both_ok h1).1; have g2 := days_ge (both_ok h2).1; have ga := days_ge ka; have gb := days_ge kb
  have s0 : sizeN (bothR 0 a b) = days (bothR 0 a b) := by unfold sizeN; rw [if_pos (both_ok h0).1]
  have s1 : sizeN (bothR 1 a b) = days (bothR 1 a b) := by unfold sizeN; rw [if_pos (both_ok h1).1]
  have s2 : sizeN (bothR 2 a b) = days (bothR 2 a b) := by unfold sizeN; rw [if_pos (both_ok h2).1]
  have sa : sizeN a = days a := by unfold sizeN; rw [if_pos ka]
  have sb : sizeN b = days b := by unfold sizeN; rw [if_pos kb]
  rw [s0, (both_ok h0).1] at Z0; rw [s1, (both_ok h1).1] at Z1; rw [s2, (both_ok h2).1] at Z2; rw [sa, ka] at ZA; rw [sb, kb] at ZB
  rw [h0] at C0; rw [h1] at C1; rw [h2] at C2
  clear s0 s1 s2 sa sb ka kb h0 h1 h2
  generalize bothR 0 a b = R0 at *; generalize bothR 1 a b = R1 at *; generalize bothR 2 a b = R2 at *
  generalize days R0 = D0 at *; generalize days R1 = D1 at *; generalize days R2 = D2 at *; generalize days a = DA at *; generalize days b = DB at *
  have e1 : IntKind.i64.wrap (D0 + D1) = D0 + D1 := IntWalk.i64_in _ (by omega)
  have e2 : IntKind.i64.wrap (DA + DB) = DA + DB := IntWalk.i64_in _ (by omega)
  have e3 : IntKind.i64.wrap (D1 + D2) = D1 + D2 := IntWalk.i64_in _ (by omega)
  have e4 : (D0 + D1 == DA + DB) = true := by simp; omega
  have e5 : (D1 + D2 == DA) = true := by simp; omega
  clear d1 d2 g0 g1 g2 ga gb
  go_enter Try.func8, Try.ntmps8
  go_wp2_with fail
  refine (C0.out _ _ _ HA.out HB.out).mono ?_
  rintro en w1 ⟨u1, rfl, o1, b1⟩
  have H_1 := Lib.hid (bt (br w) b1)
  have RA_1 := Lib.hid (HA.out.below b1)
  have RB_1 := Lib.hid (HB.out.below b1)
  have RO1 := Lib.hid o1.rd
  clear o1
  go_wp2_with fail
  refine (C1.out _ _ _ RA_1.out RB_1.out).mono ?_
  rintro en w2 ⟨u2, rfl, o2, b2⟩
  have H_2 := Lib.hid (bt H_1.out b2)
  have RA_2 := Lib.hid (RA_1.out.below b2)
  have RB_2 := Lib.hid (RB_1.out.below b2)
  have RU0_2 := Lib.hid (RO1.out.below b2)
  clear H_1 RA_1 RB_1 RO1
  have RO2 := Lib.hid o2.rd
  clear o2
  go_wp2_with fail
  refine (C2.out _ _ _ RA_2.out RB_2.out).mono ?_
  rintro en w3 ⟨u3, rfl, o3, b3⟩
  have H_3 := Lib.hid (bt H_2.out b3)
  have RA_3 := Lib.hid (RA_2.out.below b3)
  have RB_3 := Lib.hid (RB_2.out.below b3)
  have RU0_3 := Lib.hid (RU0_2.out.below b3)
  have RU1_3 := Lib.hid (RO2.out.below b3)
  clear H_2 RA_2 RB_2 RU0_2 RO2
  have RO3 := Lib.hid o3.rd
  clear o3
  go_wp2_with fail
  refine (CB.out _).mono ?_
  rintro en w4 ⟨rfl, b4⟩
  have H_4 := Lib.hid (bt H_3.out b4)
  have RA_4 := Lib.hid (RA_3.out.below b4)
  have RB_4 := Lib.hid (RB_3.out.below b4)
  have RU0_4 := Lib.hid (RU0_3.out.below b4)
  have RU1_4 := Lib.hid (RU1_3.out.below b4)
  have RU2_4 := Lib.hid (RO3.out.below b4)
  clear H_3 RA_3 RB_3 RU0_3 RU1_3 RO3
  go_wp2_with fail
  refine (ZA.out _ _ RA_4.out).mono ?_
  rintro en w5 ⟨rfl, b5⟩
  have H_5 := Lib.hid (bt H_4.out b5)
  have RA_5 := Lib.hid (RA_4.out.below b5)
  have RB_5 := Lib.hid (RB_4.out.below b5)
  have RU0_5 := Lib.hid (RU0_4.out.below b5)
  have RU1_5 := Lib.hid (RU1_4.out.below b5)
  have RU2_5 := Lib.hid (RU2_4.out.below b5)
  clear H_4 RA_4 RB_4 RU0_4 RU1_4 RU2_4
  go_wp2_with fail
  refine (ZB.out _ _ RB_5.out).mono ?_
  rintro en w6 ⟨rfl, b6⟩
  have H_6 := Lib.hid (bt H_5.out b6)
  have RA_6 := Lib.hid (RA_5.out.below b6)
  have RB_6 := Lib.hid (RB_5.out.below b6)
  have RU0_6 := Lib.hid (RU0_5.out.below b6)
  have RU1_6 := Lib.hid (RU1_5.out.below b6)
  have RU2_6 := Lib.hid (RU2_5.out.below b6)
  clear H_5 RA_5 RB_5 RU0_5 RU1_5 RU2_5
  clear RA_6
  clear RB_6
  go_wp2_with fail
  refine (Z0.out _ _ RU0_6.out).mono ?_
  rintro en w7 ⟨rfl, b7⟩
  have H_7 := Lib.hid (bt H_6.out b7)
  have RU0_7 := Lib.hid (RU0_6.out.below b7)
  have RU1_7 := Lib.hid (RU1_6.out.below b7)
  have RU2_7 := Lib.hid (RU2_6.out.below b7)
  clear H_6 RU0_6 RU1_6 RU2_6
  clear RU0_7
  go_wp2_with fail
  refine (Z1.out _ _ RU1_7.out).mono ?_
  rintro en w8 ⟨rfl, b8⟩
  have H_8 := Lib.hid (bt H_7.out b8)
  have RU1_8 := Lib.hid (RU1_7.out.below b8)
  have RU2_8 := Lib.hid (RU2_7.out.below b8)
  clear H_7 RU1_7 RU2_7
  clear RU1_8
  go_wp2_with fail
  refine (Z2.out _ _ RU2_8.out).mono ?_
  rintro en w9 ⟨rfl, b9⟩
  have H_9 := Lib.hid (bt H_8.out b9)
  have RU2_9 := Lib.hid (RU2_8.out.below b9)
  clear H_8 RU2_8
  clear RU2_9
  go_wp2
  go_ret
  exact ⟨by first | rfl | (simp; done), H_9.out⟩
set_option maxRecDepth 100000 in
set_option maxHeartbeats 16000000 in
theorem boole_walk (va vb vc : Value) (a b c : List Sp) (w : World) (ha : RdE elS w va a) (hb : RdE elS w vb b) (hc : RdE elS w vc c) : Calls Try.prog 7 #[va, vb, vc] w (BoolQ true w) := by
  have HA := Lib.hid ha; have HB := Lib.hid hb; have HC := Lib.hid hc
  have CU := Lib.hid (fun v u w h g => union_any v u a b w h g)
  have CV := Lib.hid (fun v u w h g => union_any v u b a w h g)
  have CM := Lib.hid (fun v u w h g => meet_any v u a b w h g)
  have CN := Lib.hid (fun v u w h g => meet_any v u b a w h g)
  have CP := Lib.hid (fun v u w h g => meet_any v u a c w h g)
  have CQ := Lib.hid (fun v u w h g => meet_any v u b c w h g)
  have CX := Lib.hid (fun v u w h g => meet_any v u (bothR 0 a b) c w h g)
  have CY := Lib.hid (fun v u w h g => union_any v u (bothR 1 a c) (bothR 1 b c) w h g)
  have CR := Lib.hid (fun v u w h g => minus_any v u c (bothR 0 a b) w h g)
  have CS := Lib.hid (fun v u w h g => minus_any v u c a w h g)
  have CT := Lib.hid (fun v u w h g => minus_any v u (bothR 2 c a) b w h g)
  have S0 := Lib.hid (fun v u w h g => same_any v u (bothR 0 a b) w h g)
  have S1 := Lib.hid (fun v u w h g => same_any v u (bothR 1 a b) w h g)
  have S2 := Lib.hid (fun v u w h g => same_any v u (bothR 1 (bothR 0 a b) c) w h g)
  have S3 := Lib.hid (fun v u w h g => same_any v u (bothR 2 c (bothR 0 a b)) w h g)
  have CB := Lib.hid begun_any
  obtain ⟨i0, r0⟩ := bothE_comm 0 (by omega) a b
  obtain ⟨i1, r1⟩ := bothE_comm 1 (by omega) a b
  have DS := Lib.hid (@dist a b c); have LK := Lib.hid (@lacks a b c)
  rw [← r0] at CV; rw [← r1] at CN
  clear r0 r1
  obtain ⟨aa, ca, rfl, _, _, _⟩ := ha
  obtain ⟨ab, cb, rfl, _, _, _⟩ := hb
  obtain ⟨ac, cc, rfl, _, _, _⟩ := hc
  generalize bothE 0 b a = F0 at *; generalize bothE 1 b a = F1 at *
  generalize hRX : bothR 1 (bothR 0 a b) c = RX at *; generalize hRY : bothR 0 (bothR 1 a c) (bothR 1 b c) = RY at *
  generalize hRR : bothR 2 c (bothR 0 a b) = RR at *; generalize hRT : bothR 2 (bothR 2 c a) b = RT at *
  generalize bothE 1 (bothR 0 a b) c = EX at *; generalize bothE 0 (bothR 1 a c) (bothR 1 b c) = EY at *
  generalize bothE 2 c (bothR 0 a b) = ER at *; generalize bothE 2 (bothR 2 c a) b = ET at *; generalize bothE 2 c a = ES at *
  generalize bothE 0 a b = E0 at *; generalize bothE 1 a b = E1 at *; generalize bothE 1 a c = EP at *; generalize bothE 1 b c = EQ at *
  generalize bothR 0 a b = R0 at *; generalize bothR 1 a b = R1 at *; generalize bothR 1 a c = RP at *; generalize bothR 1 b c = RQ at *; generalize bothR 2 c a = RS at *
  clear hRX hRY hRR hRT
  have z0 : (E0 == 0) = (F0 == 0) := by rw [Bool.eq_iff_iff]; simpa using i0
  have z1 : (E1 == 0) = (F1 == 0) := by rw [Bool.eq_iff_iff]; simpa using i1
  clear i0 i1
  go_enter Try.func7, Try.ntmps7
  go_wp2_with fail
  refine (CB.out _).mono ?_
  rintro en w1 ⟨rfl, b1⟩
  have H_1 := Lib.hid (bt (br w) b1)
  have RA_1 := Lib.hid (HA.out.below b1)
  have RB_1 := Lib.hid (HB.out.below b1)
  have RC_1 := Lib.hid (HC.out.below b1)
  go_wp2_with fail
  refine (CU.out _ _ _ RA_1.out RB_1.out).mono ?_
  rintro en w2 ⟨u2, rfl, o2, b2⟩
  have H_2 := Lib.hid (bt H_1.out b2)
  have RA_2 := Lib.hid (RA_1.out.below b2)
  have RB_2 := Lib.hid (RB_1.out.below b2)
  have RC_2 := Lib.hid (RC_1.out.below b2)
  clear H_1 RA_1 RB_1 RC_1
  have RO2 := Lib.hid o2.rd
  clear o2
  go_wp2_with fail
  refine (CV.out _ _ _ RB_2.out RA_2.out).mono ?_
  rintro en w3 ⟨u3, rfl, o3, b3⟩
  have H_3 := Lib.hid (bt H_2.out b3)
  have RA_3 := Lib.hid (RA_2.out.below b3)
  have RB_3 := Lib.hid (RB_2.out.below b3)
  have RC_3 := Lib.hid (RC_2.out.below b3)
  have RAB_3 := Lib.hid (RO2.out.below b3)
  clear H_2 RA_2 RB_2 RC_2 RO2
  have RO3 := Lib.hid o3.rd
  clear o3
  go_wp2_with fail
  refine (CM.out _ _ _ RA_3.out RB_3.out).mono ?_
  rintro en w4 ⟨u4, rfl, o4, b4⟩
  have H_4 := Lib.hid (bt H_3.out b4)
  have RA_4 := Lib.hid (RA_3.out.below b4)
  have RB_4 := Lib.hid (RB_3.out.below b4)
  have RC_4 := Lib.hid (RC_3.out.below b4)
  have RAB_4 := Lib.hid (RAB_3.out.below b4)
  have RBA_4 := Lib.hid (RO3.out.below b4)
  clear H_3 RA_3 RB_3 RC_3 RAB_3 RO3
  have RO4 := Lib.hid o4.rd
  clear o4
  go_wp2_with fail
  refine (CN.out _ _ _ RB_4.out RA_4.out).mono ?_
  rintro en w5 ⟨u5, rfl, o5, b5⟩
  have H_5 := Lib.hid (bt H_4.out b5)
  have RA_5 := Lib.hid (RA_4.out.below b5)
  have RB_5 := Lib.hid (RB_4.out.below b5)
  have RC_5 := Lib.hid (RC_4.out.below b5)
  have RAB_5 := Lib.hid (RAB_4.out.below b5)
  have RBA_5 := Lib.hid (RBA_4.out.below b5)
  have RMAB_5 := Lib.hid (RO4.out.below b5)
  clear H_4 RA_4 RB_4 RC_4 RAB_4 RBA_4 RO4
  have RO5 := Lib.hid o5.rd
  clear o5
  go_wp2_with fail
  refine (S0.out _ _ _ RAB_5.out RBA_5.out).mono ?_
  rintro en w6 ⟨rfl, b6⟩
  have H_6 := Lib.hid (bt H_5.out b6)
  have RA_6 := Lib.hid (RA_5.out.below b6)
  have RB_6 := Lib.hid (RB_5.out.below b6)
  have RC_6 := Lib.hid (RC_5.out.below b6)
  have RAB_6 := Lib.hid (RAB_5.out.below b6)
  have RBA_6 := Lib.hid (RBA_5.out.below b6)
  have RMAB_6 := Lib.hid (RMAB_5.out.below b6)
  have RMBA_6 := Lib.hid (RO5.out.below b6)
  clear H_5 RA_5 RB_5 RC_5 RAB_5 RBA_5 RMAB_5 RO5
  go_wp2_with fail
  refine (S1.out _ _ _ RMAB_6.out RMBA_6.out).mono ?_
  rintro en w7 ⟨rfl, b7⟩
  have H_7 := Lib.hid (bt H_6.out b7)
  have RA_7 := Lib.hid (RA_6.out.below b7)
  have RB_7 := Lib.hid (RB_6.out.below b7)
  have RC_7 := Lib.hid (RC_6.out.below b7)
  have RAB_7 := Lib.hid (RAB_6.out.below b7)
  have RBA_7 := Lib.hid (RBA_6.out.below b7)
  have RMAB_7 := Lib.hid (RMAB_6.out.below b7)
  have RMBA_7 := Lib.hid (RMBA_6.out.below b7)
  clear H_6 RA_6 RB_6 RC_6 RAB_6 RBA_6 RMAB_6 RMBA_6
  clear RBA_7
  clear RMAB_7
  clear RMBA_7
  go_wp2_with fail
  refine (CP.out _ _ _ RA_7.out RC_7.out).mono ?_
  rintro en w8 ⟨u8, rfl, o8, b8⟩
  have H_8 := Lib.hid (bt H_7.out b8)
  have RA_8 := Lib.hid (RA_7.out.below b8)
  have RB_8 := Lib.hid (RB_7.out.below b8)
  have RC_8 := Lib.hid (RC_7.out.below b8)
  have RAB_8 := Lib.hid (RAB_7.out.below b8)
  clear H_7 RA_7 RB_7 RC_7 RAB_7
  have RO8 := Lib.hid o8.rd
  clear o8
  go_wp2_with fail
  refine (CQ.out _ _ _ RB_8.out RC_8.out).mono ?_
  rintro en w9 ⟨u9, rfl, o9, b9⟩
  have H_9 := Lib.hid (bt H_8.out b9)
  have RA_9 := Lib.hid (RA_8.out.below b9)
  have RB_9 := Lib.hid (RB_8.out.below b9)
  have RC_9 := Lib.hid (RC_8.out.below b9)
  have RAB_9 := Lib.hid (RAB_8.out.below b9)
  have RMAC_9 := Lib.hid (RO8.out.below b9)
  clear H_8 RA_8 RB_8 RC_8 RAB_8 RO8
  have RO9 := Lib.hid o9.rd
  clear o9
  by_cases yE0 : E0 = 0
  case neg =>
    have xE0 : (E0 != 0) = true := by simp [yE0]
    go_wp2
    go_ret
    exact ⟨by first | rfl | (simp; done), H_9.out⟩
  have xE0 : (E0 != 0) = false := by simp [yE0]
  by_cases yE1 : E1 = 0
  case neg =>
    have xE1 : (E1 != 0) = true := by simp [yE1]
    go_wp2
    go_ret
    exact ⟨by first | rfl | (simp; done), H_9.out⟩
  have xE1 : (E1 != 0) = false := by simp [yE1]
  by_cases yEP : EP = 0
  case neg =>
    have xEP : (EP != 0) = true := by simp [yEP]
    go_wp2
    go_ret
    exact ⟨by first | rfl | (simp; done), H_9.out⟩
  have xEP : (EP != 0) = false := by simp [yEP]
  by_cases yEQ : EQ = 0
  case neg =>
    have xEQ : (EQ != 0) = true := by simp [yEQ]
    go_wp2
    go_ret
    exact ⟨by first | rfl | (simp; done), H_9.out⟩
  have xEQ : (EQ != 0) = false := by simp [yEQ]
  go_wp2_with fail
  refine (CX.out _ _ _ RAB_9.out RC_9.out).mono ?_
  rintro en w10 ⟨u10, rfl, o10, b10⟩
  have H_10 := Lib.hid (bt H_9.out b10)
  have RA_10 := Lib.hid (RA_9.out.below b10)
  have RB_10 := Lib.hid (RB_9.out.below b10)
  have RC_10 := Lib.hid (RC_9.out.below b10)
  have RAB_10 := Lib.hid (RAB_9.out.below b10)
  have RMAC_10 := Lib.hid (RMAC_9.out.below b10)
  have RMBC_10 := Lib.hid (RO9.out.below b10)
  clear H_9 RA_9 RB_9 RC_9 RAB_9 RMAC_9 RO9
  have RO10 := Lib.hid o10.rd
  clear o10
  go_wp2_with fail
  refine (CY.out _ _ _ RMAC_10.out RMBC_10.out).mono ?_
  rintro en w11 ⟨u11, rfl, o11, b11⟩
  have H_11 := Lib.hid (bt H_10.out b11)
  have RA_11 := Lib.hid (RA_10.out.below b11)
  have RB_11 := Lib.hid (RB_10.out.below b11)
  have RC_11 := Lib.hid (RC_10.out.below b11)
  have RAB_11 := Lib.hid (RAB_10.out.below b11)
  have RMAC_11 := Lib.hid (RMAC_10.out.below b11)
  have RMBC_11 := Lib.hid (RMBC_10.out.below b11)
  have RX_11 := Lib.hid (RO10.out.below b11)
  clear H_10 RA_10 RB_10 RC_10 RAB_10 RMAC_10 RMBC_10 RO10
  have RO11 := Lib.hid o11.rd
  clear o11
  by_cases yEX : EX = 0
  case neg =>
    have xEX : (EX == 0) = false := by simp [yEX]
    clear RX_11
    clear RO11
    clear RMAC_11
    clear RMBC_11
    go_wp2_with fail
    refine (CR.out _ _ _ RC_11.out RAB_11.out).mono ?_
    rintro en w12 ⟨u12, rfl, o12, b12⟩
    have H_12 := Lib.hid (bt H_11.out b12)
    have RA_12 := Lib.hid (RA_11.out.below b12)
    have RB_12 := Lib.hid (RB_11.out.below b12)
    have RC_12 := Lib.hid (RC_11.out.below b12)
    have RAB_12 := Lib.hid (RAB_11.out.below b12)
    clear H_11 RA_11 RB_11 RC_11 RAB_11
    have RO12 := Lib.hid o12.rd
    clear o12
    go_wp2_with fail
    refine (CS.out _ _ _ RC_12.out RA_12.out).mono ?_
    rintro en w13 ⟨u13, rfl, o13, b13⟩
    have H_13 := Lib.hid (bt H_12.out b13)
    have RA_13 := Lib.hid (RA_12.out.below b13)
    have RB_13 := Lib.hid (RB_12.out.below b13)
    have RC_13 := Lib.hid (RC_12.out.below b13)
    have RAB_13 := Lib.hid (RAB_12.out.below b13)
    have RP_13 := Lib.hid (RO12.out.below b13)
    clear H_12 RA_12 RB_12 RC_12 RAB_12 RO12
    have RO13 := Lib.hid o13.rd
    clear o13
    by_cases yER : ER = 0
    case neg =>
      have xER : (ER != 0) = true := by simp [yER]
      go_wp2
      go_ret
      exact ⟨by first | rfl | (simp; done), H_13.out⟩
    have xER : (ER != 0) = false := by simp [yER]
    by_cases yES : ES = 0
    case neg =>
      have xES : (ES != 0) = true := by simp [yES]
      go_wp2
      go_ret
      exact ⟨by first | rfl | (simp; done), H_13.out⟩
    have xES : (ES != 0) = false := by simp [yES]
    go_wp2_with fail
    refine (CT.out _ _ _ RO13.out RB_13.out).mono ?_
    rintro en w14 ⟨u14, rfl, o14, b14⟩
    have H_14 := Lib.hid (bt H_13.out b14)
    have RA_14 := Lib.hid (RA_13.out.below b14)
    have RB_14 := Lib.hid (RB_13.out.below b14)
    have RC_14 := Lib.hid (RC_13.out.below b14)
    have RAB_14 := Lib.hid (RAB_13.out.below b14)
    have RP_14 := Lib.hid (RP_13.out.below b14)
    have RQ_14 := Lib.hid (RO13.out.below b14)
    clear H_13 RA_13 RB_13 RC_13 RAB_13 RP_13 RO13
    have RO14 := Lib.hid o14.rd
    clear o14
    by_cases yET : ET = 0
    case neg =>
      have xET : (ET != 0) = true := by simp [yET]
      go_wp2
      go_ret
      exact ⟨by first | rfl | (simp; done), H_14.out⟩
    have xET : (ET != 0) = false := by simp [yET]
    have hrt : RR = RT := LK.out yE0 yER yES yET
    subst hrt
    go_wp2_with fail
    refine (S3.out _ _ _ RP_14.out RO14.out).mono ?_
    rintro en w15 ⟨rfl, b15⟩
    have H_15 := Lib.hid (bt H_14.out b15)
    have RA_15 := Lib.hid (RA_14.out.below b15)
    have RB_15 := Lib.hid (RB_14.out.below b15)
    have RC_15 := Lib.hid (RC_14.out.below b15)
    have RAB_15 := Lib.hid (RAB_14.out.below b15)
    have RP_15 := Lib.hid (RP_14.out.below b15)
    have RQ_15 := Lib.hid (RQ_14.out.below b15)
    have RT_15 := Lib.hid (RO14.out.below b15)
    clear H_14 RA_14 RB_14 RC_14 RAB_14 RP_14 RQ_14 RO14
    go_wp2
    go_ret
    exact ⟨by first | rfl | (simp; done), H_15.out⟩
  have xEX : (EX == 0) = true := by simp [yEX]
  by_cases yEY : EY = 0
  case neg =>
    have xEY : (EY == 0) = false := by simp [yEY]
    clear RX_11
    clear RO11
    clear RMAC_11
    clear RMBC_11
    go_wp2_with fail
    refine (CR.out _ _ _ RC_11.out RAB_11.out).mono ?_
    rintro en w12 ⟨u12, rfl, o12, b12⟩
    have H_12 := Lib.hid (bt H_11.out b12)
    have RA_12 := Lib.hid (RA_11.out.below b12)
    have RB_12 := Lib.hid (RB_11.out.below b12)
    have RC_12 := Lib.hid (RC_11.out.below b12)
    have RAB_12 := Lib.hid (RAB_11.out.below b12)
    clear H_11 RA_11 RB_11 RC_11 RAB_11
    have RO12 := Lib.hid o12.rd
    clear o12
    go_wp2_with fail
    refine (CS.out _ _ _ RC_12.out RA_12.out).mono ?_
    rintro en w13 ⟨u13, rfl, o13, b13⟩
    have H_13 := Lib.hid (bt H_12.out b13)
    have RA_13 := Lib.hid (RA_12.out.below b13)
    have RB_13 := Lib.hid (RB_12.out.below b13)
    have RC_13 := Lib.hid (RC_12.out.below b13)
    have RAB_13 := Lib.hid (RAB_12.out.below b13)
    have RP_13 := Lib.hid (RO12.out.below b13)
    clear H_12 RA_12 RB_12 RC_12 RAB_12 RO12
    have RO13 := Lib.hid o13.rd
    clear o13
    by_cases yER : ER = 0
    case neg =>
      have xER : (ER != 0) = true := by simp [yER]
      go_wp2
      go_ret
      exact ⟨by first | rfl | (simp; done), H_13.out⟩
    have xER : (ER != 0) = false := by simp [yER]
    by_cases yES : ES = 0
    case neg =>
      have xES : (ES != 0) = true := by simp [yES]
      go_wp2
      go_ret
      exact ⟨by first | rfl | (simp; done), H_13.out⟩
    have xES : (ES != 0) = false := by simp [yES]
    go_wp2_with fail
    refine (CT.out _ _ _ RO13.out RB_13.out).mono ?_
    rintro en w14 ⟨u14, rfl, o14, b14⟩
    have H_14 := Lib.hid (bt H_13.out b14)
    have RA_14 := Lib.hid (RA_13.out.below b14)
    have RB_14 := Lib.hid (RB_13.out.below b14)
    have RC_14 := Lib.hid (RC_13.out.below b14)
    have RAB_14 := Lib.hid (RAB_13.out.below b14)
    have RP_14 := Lib.hid (RP_13.out.below b14)
    have RQ_14 := Lib.hid (RO13.out.below b14)
    clear H_13 RA_13 RB_13 RC_13 RAB_13 RP_13 RO13
    have RO14 := Lib.hid o14.rd
    clear o14
    by_cases yET : ET = 0
    case neg =>
      have xET : (ET != 0) = true := by simp [yET]
      go_wp2
      go_ret
      exact ⟨by first | rfl | (simp; done), H_14.out⟩
    have xET : (ET != 0) = false := by simp [yET]
    have hrt : RR = RT := LK.out yE0 yER yES yET
    subst hrt
    go_wp2_with fail
    refine (S3.out _ _ _ RP_14.out RO14.out).mono ?_
    rintro en w15 ⟨rfl, b15⟩
    have H_15 := Lib.hid (bt H_14.out b15)
    have RA_15 := Lib.hid (RA_14.out.below b15)
    have RB_15 := Lib.hid (RB_14.out.below b15)
    have RC_15 := Lib.hid (RC_14.out.below b15)
    have RAB_15 := Lib.hid (RAB_14.out.below b15)
    have RP_15 := Lib.hid (RP_14.out.below b15)
    have RQ_15 := Lib.hid (RQ_14.out.below b15)
    have RT_15 := Lib.hid (RO14.out.below b15)
    clear H_14 RA_14 RB_14 RC_14 RAB_14 RP_14 RQ_14 RO14
    go_wp2
    go_ret
    exact ⟨by first | rfl | (simp; done), H_15.out⟩
  have xEY : (EY == 0) = true := by simp [yEY]
  have hxy : RX = RY := DS.out yE0 yEP yEQ yEX yEY
  subst hxy
  go_wp2_with fail
  refine (S2.out _ _ _ RX_11.out RO11.out).mono ?_
  rintro en w12 ⟨rfl, b12⟩
  have H_12 := Lib.hid (bt H_11.out b12)
  have RA_12 := Lib.hid (RA_11.out.below b12)
  have RB_12 := Lib.hid (RB_11.out.below b12)
  have RC_12 := Lib.hid (RC_11.out.below b12)
  have RAB_12 := Lib.hid (RAB_11.out.below b12)
  have RMAC_12 := Lib.hid (RMAC_11.out.below b12)
  have RMBC_12 := Lib.hid (RMBC_11.out.below b12)
  have RX_12 := Lib.hid (RX_11.out.below b12)
  have RY_12 := Lib.hid (RO11.out.below b12)
  clear H_11 RA_11 RB_11 RC_11 RAB_11 RMAC_11 RMBC_11 RX_11 RO11
  clear RX_12
  clear RY_12
  clear RMAC_12
  clear RMBC_12
  go_wp2_with fail
  refine (CR.out _ _ _ RC_12.out RAB_12.out).mono ?_
  rintro en w13 ⟨u13, rfl, o13, b13⟩
  have H_13 := Lib.hid (bt H_12.out b13)
  have RA_13 := Lib.hid (RA_12.out.below b13)
  have RB_13 := Lib.hid (RB_12.out.below b13)
  have RC_13 := Lib.hid (RC_12.out.below b13)
  have RAB_13 := Lib.hid (RAB_12.out.below b13)
  clear H_12 RA_12 RB_12 RC_12 RAB_12
  have RO13 := Lib.hid o13.rd
  clear o13
  go_wp2_with fail
  refine (CS.out _ _ _ RC_13.out RA_13.out).mono ?_
  rintro en w14 ⟨u14, rfl, o14, b14⟩
  have H_14 := Lib.hid (bt H_13.out b14)
  have RA_14 := Lib.hid (RA_13.out.below b14)
  have RB_14 := Lib.hid (RB_13.out.below b14)
  have RC_14 := Lib.hid (RC_13.out.below b14)
  have RAB_14 := Lib.hid (RAB_13.out.below b14)
  have RP_14 := Lib.hid (RO13.out.below b14)
  clear H_13 RA_13 RB_13 RC_13 RAB_13 RO13
  have RO14 := Lib.hid o14.rd
  clear o14
  by_cases yER : ER = 0
  case neg =>
    have xER : (ER != 0) = true := by simp [yER]
    go_wp2
    go_ret
    exact ⟨by first | rfl | (simp; done), H_14.out⟩
  have xER : (ER != 0) = false := by simp [yER]
  by_cases yES : ES = 0
  case neg =>
    have xES : (ES != 0) = true := by simp [yES]
    go_wp2
    go_ret
    exact ⟨by first | rfl | (simp; done), H_14.out⟩
  have xES : (ES != 0) = false := by simp [yES]
  go_wp2_with fail
  refine (CT.out _ _ _ RO14.out RB_14.out).mono ?_
  rintro en w15 ⟨u15, rfl, o15, b15⟩
  have H_15 := Lib.hid (bt H_14.out b15)
  have RA_15 := Lib.hid (RA_14.out.below b15)
  have RB_15 := Lib.hid (RB_14.out.below b15)
  have RC_15 := Lib.hid (RC_14.out.below b15)
  have RAB_15 := Lib.hid (RAB_14.out.below b15)
  have RP_15 := Lib.hid (RP_14.out.below b15)
  have RQ_15 := Lib.hid (RO14.out.below b15)
  clear H_14 RA_14 RB_14 RC_14 RAB_14 RP_14 RO14
  have RO15 := Lib.hid o15.rd
  clear o15
  by_cases yET : ET = 0
  case neg =>
    have xET : (ET != 0) = true := by simp [yET]
    go_wp2
    go_ret
    exact ⟨by first | rfl | (simp; done), H_15.out⟩
  have xET : (ET != 0) = false := by simp [yET]
  have hrt : RR = RT := LK.out yE0 yER yES yET
  subst hrt
  go_wp2_with fail
  refine (S3.out _ _ _ RP_15.out RO15.out).mono ?_
  rintro en w16 ⟨rfl, b16⟩
  have H_16 := Lib.hid (bt H_15.out b16)
  have RA_16 := Lib.hid (RA_15.out.below b16)
  have RB_16 := Lib.hid (RB_15.out.below b16)
  have RC_16 := Lib.hid (RC_15.out.below b16)
  have RAB_16 := Lib.hid (RAB_15.out.below b16)
  have RP_16 := Lib.hid (RP_15.out.below b16)
  have RQ_16 := Lib.hid (RQ_15.out.below b16)
  have RT_16 := Lib.hid (RO15.out.below b16)
  clear H_15 RA_15 RB_15 RC_15 RAB_15 RP_15 RQ_15 RO15
  go_wp2
  go_ret
  exact ⟨by first | rfl | (simp; done), H_16.out⟩
end Sn
end Go.Proofs.Ytncpgfmamhjekaa
