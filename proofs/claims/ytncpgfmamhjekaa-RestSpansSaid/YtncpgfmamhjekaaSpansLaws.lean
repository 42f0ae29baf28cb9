/- Sets of days: SpansTell, SpansBoth, SpansHas. (gen_spans6.py) -/
import Derived.Test.YtncpgfmamhjekaaSpansRef5
import Derived.Test.YtncpgfmamhjekaaSpansBegun
set_option linter.unusedSimpArgs false
set_option linter.unusedVariables false
namespace Go.Proofs.Ytncpgfmamhjekaa
open Go.RowKit
namespace Sn
theorem hasDay_b (v : Value) (l : List Sp) (n : Int) (w : World) (h : RdE elS w v l) : Calls Try.prog 18 #[v, .int .i64 n] w (BoolQ (has l n) w) :=
  (hasDay_any v l n w h).mono fun _ _ ⟨a, b⟩ => ⟨a, by rw [b]; exact br w⟩
theorem same_any (v u : Value) (xs : List Sp) (w : World) (h : RdE elS w v xs) (h' : RdE elS w u xs) : Calls Try.prog 17 #[v, u] w (BoolQ true w) :=
  (sameS_any v u xs xs w h h').mono fun _ _ ⟨a, b⟩ => ⟨by rw [a]; simp, b⟩
set_option maxRecDepth 100000 in
set_option maxHeartbeats 8000000 in
theorem tell_walk (v : Value) (l : List Sp) (n : Int) (w : World) (h : RdE elS w v l) : Calls Try.prog 3 #[v, .int .i64 n] w (BoolQ true w) := by
  have HL := Lib.hid h
  have C1 := Lib.hid (fun v w h => of_any v l w h)
  have C2 := Lib.hid (fun v w h => has_fn v l n w h)
  have C3 := Lib.hid (fun v w h => size_any v l w h)
  have C4 := Lib.hid (fun v w h => ofR_any v l w h)
  have C5 := Lib.hid (fun v w h => checkR_any v l w h)
  have C6 := Lib.hid begun_any
  have C7 := Lib.hid (fun v w h => check_any v l w h)
  have C8 := Lib.hid (fun v u w h g => same_any v u (ofR l) w h g)
  by_cases ck : chkS l = 0
  · have hh : hasB l n = has l n := by unfold hasB; rw [if_pos ck]
    have hz : sizeN l = days l := by unfold sizeN; rw [if_pos ck]
    obtain ⟨hlen, hnn, _⟩ := (chkS_ok l).1 ck
    have C9 := Lib.hid (fun v w h => hasDay_b v l n w h)
    have CA := Lib.hid (fun v w h => daysOf_any v l w h hnn (by omega))
    rw [hh, ck] at C2; rw [hz, ck] at C3; rw [ck] at C5 C7
    obtain ⟨a, cap, rfl, _, _, _⟩ := h
    clear hh hz ck hnn
    generalize ofR l = OR at *; generalize ofE l = OE at *; generalize has l n = hb at *; generalize days l = dd at *
    have hoe : (OE != OE) = false := by simp
    have hhb : (hb == hb) = true := by simp
    have hdd : (dd == dd) = true := by simp
    go_enter Try.func3, Try.ntmps3
    go_wp2_with fail
    refine (C1.out _ _ HL.out).mono ?_
    rintro en w1 ⟨u1, rfl, o1, b1⟩
    have H_1 := Lib.hid (bt (br w) b1)
    have RL_1 := Lib.hid (HL.out.below b1)
    have RO1 := Lib.hid o1.rd
    clear o1
    go_wp2_with fail
    refine (C2.out _ _ RL_1.out).mono ?_
    rintro en w2 ⟨rfl, b2⟩
    have H_2 := Lib.hid (bt H_1.out b2)
    have RL_2 := Lib.hid (RL_1.out.below b2)
    have RA_2 := Lib.hid (RO1.out.below b2)
    clear H_1 RL_1 RO1
    go_wp2_with fail
    refine (C3.out _ _ RL_2.out).mono ?_
    rintro en w3 ⟨rfl, b3⟩
    have H_3 := Lib.hid (bt H_2.out b3)
    have RL_3 := Lib.hid (RL_2.out.below b3)
    have RA_3 := Lib.hid (RA_2.out.below b3)
    clear H_2 RL_2 RA_2
    go_wp2_with fail
    refine (C4.out _ _ RL_3.out).mono ?_
    rintro en w4 ⟨u4, rfl, o4, b4⟩
    have H_4 := Lib.hid (bt H_3.out b4)
    have RL_4 := Lib.hid (RL_3.out.below b4)
    have RA_4 := Lib.hid (RA_3.out.below b4)
    clear H_3 RL_3 RA_3
    have RO4 := Lib.hid o4.rd
    clear o4
    go_wp2_with fail
    refine (C5.out _ _ RL_4.out).mono ?_
    rintro en w5 ⟨rfl, b5⟩
    have H_5 := Lib.hid (bt H_4.out b5)
    have RL_5 := Lib.hid (RL_4.out.below b5)
    have RA_5 := Lib.hid (RA_4.out.below b5)
    have RB_5 := Lib.hid (RO4.out.below b5)
    clear H_4 RL_4 RA_4 RO4
    go_wp2_with fail
    refine (C6.out _).mono ?_
    rintro en w6 ⟨rfl, b6⟩
    have H_6 := Lib.hid (bt H_5.out b6)
    have RL_6 := Lib.hid (RL_5.out.below b6)
    have RA_6 := Lib.hid (RA_5.out.below b6)
    have RB_6 := Lib.hid (RB_5.out.below b6)
    clear H_5 RL_5 RA_5 RB_5
    go_wp2_with fail
    refine (C7.out _ _ RL_6.out).mono ?_
    rintro en w7 ⟨rfl, b7⟩
    have H_7 := Lib.hid (bt H_6.out b7)
    have RL_7 := Lib.hid (RL_6.out.below b7)
    have RA_7 := Lib.hid (RA_6.out.below b7)
    have RB_7 := Lib.hid (RB_6.out.below b7)
    clear H_6 RL_6 RA_6 RB_6
    go_wp2_with fail
    refine (C8.out _ _ _ RA_7.out RB_7.out).mono ?_
    rintro en w8 ⟨rfl, b8⟩
    have H_8 := Lib.hid (bt H_7.out b8)
    have RL_8 := Lib.hid (RL_7.out.below b8)
    have RA_8 := Lib.hid (RA_7.out.below b8)
    have RB_8 := Lib.hid (RB_7.out.below b8)
    clear H_7 RL_7 RA_7 RB_7
    clear RA_8
    clear RB_8
    go_wp2_with fail
    refine (C9.out _ _ RL_8.out).mono ?_
    rintro en w9 ⟨rfl, b9⟩
    have H_9 := Lib.hid (bt H_8.out b9)
    have RL_9 := Lib.hid (RL_8.out.below b9)
    clear H_8 RL_8
    go_wp2_with fail
    refine (CA.out _ _ RL_9.out).mono ?_
    rintro en w10 ⟨rfl, b10⟩
    have H_10 := Lib.hid (bt H_9.out b10)
    have RL_10 := Lib.hid (RL_9.out.below b10)
    clear H_9 RL_9
    go_wp2
    go_ret
    exact ⟨by first | rfl | (simp; done), H_10.out⟩
  · have hh : hasB l n = false := by unfold hasB; rw [if_neg ck]
    have hz : sizeN l = 0 := by unfold sizeN; rw [if_neg ck]
    rw [hh] at C2; rw [hz] at C3
    obtain ⟨a, cap, rfl, _, _, _⟩ := h
    generalize chkS l = ce at *
    have hce : (ce != 0) = true := by simp [ck]
    have hce2 : (ce != ce) = false := by simp
    have hce3 : (ce == 0) = false := by simp [ck]
    clear hh hz ck
    generalize ofR l = OR at *; generalize ofE l = OE at *
    have hoe : (OE != OE) = false := by simp
    go_enter Try.func3, Try.ntmps3
    go_wp2_with fail
    refine (C1.out _ _ HL.out).mono ?_
    rintro en w1 ⟨u1, rfl, o1, b1⟩
    have H_1 := Lib.hid (bt (br w) b1)
    have RL_1 := Lib.hid (HL.out.below b1)
    have RO1 := Lib.hid o1.rd
    clear o1
    go_wp2_with fail
    refine (C2.out _ _ RL_1.out).mono ?_
    rintro en w2 ⟨rfl, b2⟩
    have H_2 := Lib.hid (bt H_1.out b2)
    have RL_2 := Lib.hid (RL_1.out.below b2)
    have RA_2 := Lib.hid (RO1.out.below b2)
    clear H_1 RL_1 RO1
    go_wp2_with fail
    refine (C3.out _ _ RL_2.out).mono ?_
    rintro en w3 ⟨rfl, b3⟩
    have H_3 := Lib.hid (bt H_2.out b3)
    have RL_3 := Lib.hid (RL_2.out.below b3)
    have RA_3 := Lib.hid (RA_2.out.below b3)
    clear H_2 RL_2 RA_2
    go_wp2_with fail
    refine (C4.out _ _ RL_3.out).mono ?_
    rintro en w4 ⟨u4, rfl, o4, b4⟩
    have H_4 := Lib.hid (bt H_3.out b4)
    have RL_4 := Lib.hid (RL_3.out.below b4)
    have RA_4 := Lib.hid (RA_3.out.below b4)
    clear H_3 RL_3 RA_3
    have RO4 := Lib.hid o4.rd
    clear o4
    go_wp2_with fail
    refine (C5.out _ _ RL_4.out).mono ?_
    rintro en w5 ⟨rfl, b5⟩
    have H_5 := Lib.hid (bt H_4.out b5)
    have RL_5 := Lib.hid (RL_4.out.below b5)
    have RA_5 := Lib.hid (RA_4.out.below b5)
    have RB_5 := Lib.hid (RO4.out.below b5)
    clear H_4 RL_4 RA_4 RO4
    go_wp2_with fail
    refine (C6.out _).mono ?_
    rintro en w6 ⟨rfl, b6⟩
    have H_6 := Lib.hid (bt H_5.out b6)
    have RL_6 := Lib.hid (RL_5.out.below b6)
    have RA_6 := Lib.hid (RA_5.out.below b6)
    have RB_6 := Lib.hid (RB_5.out.below b6)
    clear H_5 RL_5 RA_5 RB_5
    go_wp2_with fail
    refine (C7.out _ _ RL_6.out).mono ?_
    rintro en w7 ⟨rfl, b7⟩
    have H_7 := Lib.hid (bt H_6.out b7)
    have RL_7 := Lib.hid (RL_6.out.below b7)
    have RA_7 := Lib.hid (RA_6.out.below b7)
    have RB_7 := Lib.hid (RB_6.out.below b7)
    clear H_6 RL_6 RA_6 RB_6
    go_wp2_with fail
    refine (C8.out _ _ _ RA_7.out RB_7.out).mono ?_
    rintro en w8 ⟨rfl, b8⟩
    have H_8 := Lib.hid (bt H_7.out b8)
    have RL_8 := Lib.hid (RL_7.out.below b8)
    have RA_8 := Lib.hid (RA_7.out.below b8)
    have RB_8 := Lib.hid (RB_7.out.below b8)
    clear H_7 RL_7 RA_7 RB_7
    clear RA_8
    clear RB_8
    go_wp2
    go_ret
    exact ⟨by first | rfl | (simp; done), H_8.out⟩
set_option maxRecDepth 100000 in
set_option maxHeartbeats 8000000 in
theorem both_walk (va vb : Value) (a b : List Sp) (w : World) (ha : RdE elS w va a) (hb : RdE elS w vb b) : Calls Try.prog 4 #[va, vb] w (BoolQ true w) := by
  have HA := Lib.hid ha; have HB := Lib.hid hb
  have C0 := Lib.hid (fun v u w h g => union_any v u a b w h g)
  have C1 := Lib.hid (fun v u w h g => meet_any v u a b w h g)
  have C2 := Lib.hid (fun v u w h g => minus_any v u a b w h g)
  have D0 := Lib.hid (fun v u w h g => bothR_any 0 (by omega) v u a b w h g)
  have D1 := Lib.hid (fun v u w h g => bothR_any 1 (by omega) v u a b w h g)
  have D2 := Lib.hid (fun v u w h g => bothR_any 2 (by omega) v u a b w h g)
  have S0 := Lib.hid (fun v u w h g => same_any v u (bothR 0 a b) w h g)
  have S1 := Lib.hid (fun v u w h g => same_any v u (bothR 1 a b) w h g)
  have S2 := Lib.hid (fun v u w h g => same_any v u (bothR 2 a b) w h g)
  have CB := Lib.hid begun_any
  obtain ⟨aa, ca, rfl, _, _, _⟩ := ha
  obtain ⟨ab, cb, rfl, _, _, _⟩ := hb
  generalize bothR 0 a b = R0 at *; generalize bothR 1 a b = R1 at *; generalize bothR 2 a b = R2 at *
  generalize bothE 0 a b = E0 at *; generalize bothE 1 a b = E1 at *; generalize bothE 2 a b = E2 at *
  have h0 : (E0 == E0) = true := by simp
  have h1 : (E1 == E1) = true := by simp
  have h2 : (E2 == E2) = true := by simp
  go_enter Try.func4, Try.ntmps4
  go_wp2_with fail
  refine (C0.out _ _ _ HA.out HB.out).mono ?_
  rintro en w1 ⟨u1, rfl, o1, b1⟩
  have H_1 := Lib.hid (bt (br w) b1)
  have RA_1 := Lib.hid (HA.out.below b1)
  have RB_1 := Lib.hid (HB.out.below b1)
  have RO1 := Lib.hid o1.rd
  clear o1
  go_wp2_with fail
  refine (C1.out _ _ _ RA_1.out RB_1.out).mono ?_
  rintro en w2 ⟨u2, rfl, o2, b2⟩
  have H_2 := Lib.hid (bt H_1.out b2)
  have RA_2 := Lib.hid (RA_1.out.below b2)
  have RB_2 := Lib.hid (RB_1.out.below b2)
  have RU0_2 := Lib.hid (RO1.out.below b2)
  clear H_1 RA_1 RB_1 RO1
  have RO2 := Lib.hid o2.rd
  clear o2
  go_wp2_with fail
  refine (C2.out _ _ _ RA_2.out RB_2.out).mono ?_
  rintro en w3 ⟨u3, rfl, o3, b3⟩
  have H_3 := Lib.hid (bt H_2.out b3)
  have RA_3 := Lib.hid (RA_2.out.below b3)
  have RB_3 := Lib.hid (RB_2.out.below b3)
  have RU0_3 := Lib.hid (RU0_2.out.below b3)
  have RU1_3 := Lib.hid (RO2.out.below b3)
  clear H_2 RA_2 RB_2 RU0_2 RO2
  have RO3 := Lib.hid o3.rd
  clear o3
  go_wp2_with fail
  refine (D0.out _ _ _ RA_3.out RB_3.out).mono ?_
  rintro en w4 ⟨u4, rfl, o4, b4⟩
  have H_4 := Lib.hid (bt H_3.out b4)
  have RA_4 := Lib.hid (RA_3.out.below b4)
  have RB_4 := Lib.hid (RB_3.out.below b4)
  have RU0_4 := Lib.hid (RU0_3.out.below b4)
  have RU1_4 := Lib.hid (RU1_3.out.below b4)
  have RU2_4 := Lib.hid (RO3.out.below b4)
  clear H_3 RA_3 RB_3 RU0_3 RU1_3 RO3
  have RO4 := Lib.hid o4.rd
  clear o4
  go_wp2_with fail
  refine (D1.out _ _ _ RA_4.out RB_4.out).mono ?_
  rintro en w5 ⟨u5, rfl, o5, b5⟩
  have H_5 := Lib.hid (bt H_4.out b5)
  have RA_5 := Lib.hid (RA_4.out.below b5)
  have RB_5 := Lib.hid (RB_4.out.below b5)
  have RU0_5 := Lib.hid (RU0_4.out.below b5)
  have RU1_5 := Lib.hid (RU1_4.out.below b5)
  have RU2_5 := Lib.hid (RU2_4.out.below b5)
  have RX0_5 := Lib.hid (RO4.out.below b5)
  clear H_4 RA_4 RB_4 RU0_4 RU1_4 RU2_4 RO4
  have RO5 := Lib.hid o5.rd
  clear o5
  go_wp2_with fail
  refine (D2.out _ _ _ RA_5.out RB_5.out).mono ?_
  rintro en w6 ⟨u6, rfl, o6, b6⟩
  have H_6 := Lib.hid (bt H_5.out b6)
  have RA_6 := Lib.hid (RA_5.out.below b6)
  have RB_6 := Lib.hid (RB_5.out.below b6)
  have RU0_6 := Lib.hid (RU0_5.out.below b6)
  have RU1_6 := Lib.hid (RU1_5.out.below b6)
  have RU2_6 := Lib.hid (RU2_5.out.below b6)
  have RX0_6 := Lib.hid (RX0_5.out.below b6)
  have RX1_6 := Lib.hid (RO5.out.below b6)
  clear H_5 RA_5 RB_5 RU0_5 RU1_5 RU2_5 RX0_5 RO5
  have RO6 := Lib.hid o6.rd
  clear o6
  clear RA_6
  clear RB_6
  go_wp2_with fail
  refine (CB.out _).mono ?_
  rintro en w7 ⟨rfl, b7⟩
  have H_7 := Lib.hid (bt H_6.out b7)
  have RU0_7 := Lib.hid (RU0_6.out.below b7)
  have RU1_7 := Lib.hid (RU1_6.out.below b7)
  have RU2_7 := Lib.hid (RU2_6.out.below b7)
  have RX0_7 := Lib.hid (RX0_6.out.below b7)
  have RX1_7 := Lib.hid (RX1_6.out.below b7)
  have RX2_7 := Lib.hid (RO6.out.below b7)
  clear H_6 RU0_6 RU1_6 RU2_6 RX0_6 RX1_6 RO6
  go_wp2_with fail
  refine (S0.out _ _ _ RU0_7.out RX0_7.out).mono ?_
  rintro en w8 ⟨rfl, b8⟩
  have H_8 := Lib.hid (bt H_7.out b8)
  have RU0_8 := Lib.hid (RU0_7.out.below b8)
  have RU1_8 := Lib.hid (RU1_7.out.below b8)
  have RU2_8 := Lib.hid (RU2_7.out.below b8)
  have RX0_8 := Lib.hid (RX0_7.out.below b8)
  have RX1_8 := Lib.hid (RX1_7.out.below b8)
  have RX2_8 := Lib.hid (RX2_7.out.below b8)
  clear H_7 RU0_7 RU1_7 RU2_7 RX0_7 RX1_7 RX2_7
  clear RU0_8
  clear RX0_8
  go_wp2_with fail
  refine (S1.out _ _ _ RU1_8.out RX1_8.out).mono ?_
  rintro en w9 ⟨rfl, b9⟩
  have H_9 := Lib.hid (bt H_8.out b9)
  have RU1_9 := Lib.hid (RU1_8.out.below b9)
  have RU2_9 := Lib.hid (RU2_8.out.below b9)
  have RX1_9 := Lib.hid (RX1_8.out.below b9)
  have RX2_9 := Lib.hid (RX2_8.out.below b9)
  clear H_8 RU1_8 RU2_8 RX1_8 RX2_8
  clear RU1_9
  clear RX1_9
  go_wp2_with fail
  refine (S2.out _ _ _ RU2_9.out RX2_9.out).mono ?_
  rintro en w10 ⟨rfl, b10⟩
  have H_10 := Lib.hid (bt H_9.out b10)
  have RU2_10 := Lib.hid (RU2_9.out.below b10)
  have RX2_10 := Lib.hid (RX2_9.out.below b10)
  clear H_9 RU2_9 RX2_9
  clear RU2_10
  clear RX2_10
  go_wp2
  go_ret
  exact ⟨by first | rfl | (simp; done), H_10.out⟩
end Sn
end Go.Proofs.Ytncpgfmamhjekaa
