/- Sets of days: what must be in any case. (gen_spans5.py) -/
import Derived.Test.YtncpgfmamhjekaaSpansRef
set_option linter.unusedSimpArgs false
set_option linter.unusedVariables false
namespace Go.Proofs.Ytncpgfmamhjekaa
open Go.RowKit
namespace Sn
set_option maxHeartbeats 1000000 in
theorem span_any (a b : Int) (w : World) : Calls Try.prog 24 #[.int .i64 a, .int .i64 b] w fun e w' => e = .returned (aS (a, b)) ∧ Below w.heap.size w w' := by
  go_enter Try.func24, Try.ntmps24
  go_wp2
  refine bodyPost_ret (v := .agg #[.int .i64 a, .int .i64 b]) (by simp [results, Try.results24, go_sem]) rfl ⟨rfl, ?_⟩
  exact (br _).alloc (Nat.le_refl _) _
theorem list_any (v : Value) (w : World) : Calls Try.prog 33 #[v] w fun e w' => e = .returned v ∧ w = w' := by
  go_enter Try.func33, Try.ntmps33
  go_wp2
  go_ret
  exact ⟨rfl, rfl⟩
def b1 : List Sp := [(5, 7), (1, 3), (3, 4), (9, 9)]
theorem b1R : ofR b1 = [(1, 4), (5, 7)] ∧ ofE b1 = 0 := by decide
theorem b2R : bothR 0 [(1, 4), (5, 7)] [(4, 5)] = [(1, 7)] ∧ bothE 0 [(1, 4), (5, 7)] [(4, 5)] = 0 := by decide
theorem b3R : bothR 1 [(1, 4), (5, 7)] [(2, 6)] = [(2, 4), (5, 6)] ∧ bothE 1 [(1, 4), (5, 7)] [(2, 6)] = 0 := by decide
theorem b4R : bothR 2 [(1, 4), (5, 7)] [(2, 6)] = [(1, 2), (6, 7)] ∧ bothE 2 [(1, 4), (5, 7)] [(2, 6)] = 0 := by decide
theorem b5R : sizeN [(1, 4), (5, 7)] = 5 ∧ chkS [(1, 4), (5, 7)] = 0 ∧ hasB [(1, 4), (5, 7)] 4 = false := by decide
theorem b6R : chkS [(1, 2), (2, 3)] = 4 := by decide
set_option maxRecDepth 100000 in
set_option maxHeartbeats 16000000 in
theorem begun_any (w : World) : Calls Try.prog 15 #[] w (BoolQ true w) := by
  have CS := Lib.hid span_any
  have CL := Lib.hid list_any
  have CO := Lib.hid (fun v w h => of_any v b1 w h)
  have CU := Lib.hid (fun v u w h g => union_any v u [(1, 4), (5, 7)] [(4, 5)] w h g)
  have CM := Lib.hid (fun v u w h g => meet_any v u [(1, 4), (5, 7)] [(2, 6)] w h g)
  have CD := Lib.hid (fun v u w h g => minus_any v u [(1, 4), (5, 7)] [(2, 6)] w h g)
  have CZ := Lib.hid (fun v w h => size_any v [(1, 4), (5, 7)] w h)
  have CH := Lib.hid (fun v w h => has_fn v [(1, 4), (5, 7)] 4 w h)
  have CK := Lib.hid (fun v w h => check_any v [(1, 2), (2, 3)] w h)
  rw [b1R.1, b1R.2] at CO; rw [b2R.1, b2R.2] at CU; rw [b3R.1, b3R.2] at CM; rw [b4R.1, b4R.2] at CD; rw [b5R.1, b5R.2.1] at CZ; rw [b5R.2.2, b5R.2.1] at CH; rw [b6R] at CK
  have SA := Lib.hid (fun v u w h g => sameS_any v u [(1, 4), (5, 7)] [(1, 4), (5, 7)] w h g)
  unfold SameSQ at SA
  simp only [decide_true] at SA
  have SU := Lib.hid (fun v u w h g => sameS_any v u [(1, 7)] [(1, 7)] w h g)
  unfold SameSQ at SU
  simp only [decide_true] at SU
  have SM := Lib.hid (fun v u w h g => sameS_any v u [(2, 4), (5, 6)] [(2, 4), (5, 6)] w h g)
  unfold SameSQ at SM
  simp only [decide_true] at SM
  have SD := Lib.hid (fun v u w h g => sameS_any v u [(1, 2), (6, 7)] [(1, 2), (6, 7)] w h g)
  unfold SameSQ at SD
  simp only [decide_true] at SD
  go_enter Try.func15, Try.ntmps15
  go_wp2_with fail
  refine (CS.out (5) (7) _).mono ?_
  rintro en w1 ⟨rfl, b1⟩
  have H_1 := Lib.hid (bt (br w) b1)
  go_wp2_with fail
  refine (CS.out (1) (3) _).mono ?_
  rintro en w2 ⟨rfl, b2⟩
  have H_2 := Lib.hid (bt H_1.out b2)
  clear H_1
  go_wp2_with fail
  refine (CS.out (3) (4) _).mono ?_
  rintro en w3 ⟨rfl, b3⟩
  have H_3 := Lib.hid (bt H_2.out b3)
  clear H_2
  go_wp2_with fail
  refine (CS.out (9) (9) _).mono ?_
  rintro en w4 ⟨rfl, b4⟩
  have H_4 := Lib.hid (bt H_3.out b4)
  clear H_3
  have RL5 := Lib.hid (rd_lit elS [(5, 7), (1, 3), (3, 4), (9, 9)] w4 39 (0, 0) w4.heap.size rfl (by simp [maxLen]))
  have H_6 := Lib.hid (bt H_4.out ((br w4).alloc (Nat.le_refl _) (.cells #[.int .i64 5, .int .i64 7, .int .i64 1, .int .i64 3, .int .i64 3, .int .i64 4, .int .i64 9, .int .i64 9] 39)))
  clear H_4
  go_wp2_with fail
  refine (CL.out _ _).mono ?_
  rintro en wL ⟨rfl, e5⟩
  subst e5
  go_wp2_with fail
  refine (CO.out _ _ RL5.out).mono ?_
  rintro en w6 ⟨u6, rfl, o6, b6⟩
  have H_7 := Lib.hid (bt H_6.out b6)
  have RL_7 := Lib.hid (RL5.out.below b6)
  clear H_6 RL5
  have RO6 := Lib.hid o6.rd
  clear o6
  clear RL_7
  go_wp2_with fail
  refine (CS.out (4) (5) _).mono ?_
  rintro en w7 ⟨rfl, b7⟩
  have H_8 := Lib.hid (bt H_7.out b7)
  have RA_8 := Lib.hid (RO6.out.below b7)
  clear H_7 RO6
  have RL9 := Lib.hid (rd_lit elS [(4, 5)] w7 39 (0, 0) w7.heap.size rfl (by simp [maxLen]))
  have H_10 := Lib.hid (bt H_8.out ((br w7).alloc (Nat.le_refl _) (.cells #[.int .i64 4, .int .i64 5] 39)))
  have RA_10 := Lib.hid (RA_8.out.below ((br w7).alloc (Nat.le_refl _) (.cells #[.int .i64 4, .int .i64 5] 39)))
  clear H_8 RA_8
  go_wp2_with fail
  refine (CL.out _ _).mono ?_
  rintro en wL ⟨rfl, e8⟩
  subst e8
  go_wp2_with fail
  refine (CU.out _ _ _ RA_10.out RL9.out).mono ?_
  rintro en w9 ⟨u9, rfl, o9, b9⟩
  have H_11 := Lib.hid (bt H_10.out b9)
  have RA_11 := Lib.hid (RA_10.out.below b9)
  have RL_11 := Lib.hid (RL9.out.below b9)
  clear H_10 RA_10 RL9
  have RO9 := Lib.hid o9.rd
  clear o9
  clear RL_11
  go_wp2_with fail
  refine (CS.out (2) (6) _).mono ?_
  rintro en w10 ⟨rfl, b10⟩
  have H_12 := Lib.hid (bt H_11.out b10)
  have RA_12 := Lib.hid (RA_11.out.below b10)
  have RU_12 := Lib.hid (RO9.out.below b10)
  clear H_11 RA_11 RO9
  have RL13 := Lib.hid (rd_lit elS [(2, 6)] w10 39 (0, 0) w10.heap.size rfl (by simp [maxLen]))
  have H_14 := Lib.hid (bt H_12.out ((br w10).alloc (Nat.le_refl _) (.cells #[.int .i64 2, .int .i64 6] 39)))
  have RA_14 := Lib.hid (RA_12.out.below ((br w10).alloc (Nat.le_refl _) (.cells #[.int .i64 2, .int .i64 6] 39)))
  have RU_14 := Lib.hid (RU_12.out.below ((br w10).alloc (Nat.le_refl _) (.cells #[.int .i64 2, .int .i64 6] 39)))
  clear H_12 RA_12 RU_12
  go_wp2_with fail
  refine (CL.out _ _).mono ?_
  rintro en wL ⟨rfl, e11⟩
  subst e11
  go_wp2_with fail
  refine (CM.out _ _ _ RA_14.out RL13.out).mono ?_
  rintro en w12 ⟨u12, rfl, o12, b12⟩
  have H_15 := Lib.hid (bt H_14.out b12)
  have RA_15 := Lib.hid (RA_14.out.below b12)
  have RU_15 := Lib.hid (RU_14.out.below b12)
  have RL_15 := Lib.hid (RL13.out.below b12)
  clear H_14 RA_14 RU_14 RL13
  have RO12 := Lib.hid o12.rd
  clear o12
  clear RL_15
  go_wp2_with fail
  refine (CS.out (2) (6) _).mono ?_
  rintro en w13 ⟨rfl, b13⟩
  have H_16 := Lib.hid (bt H_15.out b13)
  have RA_16 := Lib.hid (RA_15.out.below b13)
  have RU_16 := Lib.hid (RU_15.out.below b13)
  have RM_16 := Lib.hid (RO12.out.below b13)
  clear H_15 RA_15 RU_15 RO12
  have RL17 := Lib.hid (rd_lit elS [(2, 6)] w13 39 (0, 0) w13.heap.size rfl (by simp [maxLen]))
  have H_18 := Lib.hid (bt H_16.out ((br w13).alloc (Nat.le_refl _) (.cells #[.int .i64 2, .int .i64 6] 39)))
  have RA_18 := Lib.hid (RA_16.out.below ((br w13).alloc (Nat.le_refl _) (.cells #[.int .i64 2, .int .i64 6] 39)))
  have RU_18 := Lib.hid (RU_16.out.below ((br w13).alloc (Nat.le_refl _) (.cells #[.int .i64 2, .int .i64 6] 39)))
  have RM_18 := Lib.hid (RM_16.out.below ((br w13).alloc (Nat.le_refl _) (.cells #[.int .i64 2, .int .i64 6] 39)))
  clear H_16 RA_16 RU_16 RM_16
  go_wp2_with fail
  refine (CL.out _ _).mono ?_
  rintro en wL ⟨rfl, e14⟩
  subst e14
  go_wp2_with fail
  refine (CD.out _ _ _ RA_18.out RL17.out).mono ?_
  rintro en w15 ⟨u15, rfl, o15, b15⟩
  have H_19 := Lib.hid (bt H_18.out b15)
  have RA_19 := Lib.hid (RA_18.out.below b15)
  have RU_19 := Lib.hid (RU_18.out.below b15)
  have RM_19 := Lib.hid (RM_18.out.below b15)
  have RL_19 := Lib.hid (RL17.out.below b15)
  clear H_18 RA_18 RU_18 RM_18 RL17
  have RO15 := Lib.hid o15.rd
  clear o15
  clear RL_19
  go_wp2_with fail
  refine (CZ.out _ _ RA_19.out).mono ?_
  rintro en w16 ⟨rfl, b16⟩
  have H_20 := Lib.hid (bt H_19.out b16)
  have RA_20 := Lib.hid (RA_19.out.below b16)
  have RU_20 := Lib.hid (RU_19.out.below b16)
  have RM_20 := Lib.hid (RM_19.out.below b16)
  have RD_20 := Lib.hid (RO15.out.below b16)
  clear H_19 RA_19 RU_19 RM_19 RO15
  go_wp2_with fail
  refine (CH.out _ _ RA_20.out).mono ?_
  rintro en w17 ⟨rfl, b17⟩
  have H_21 := Lib.hid (bt H_20.out b17)
  have RA_21 := Lib.hid (RA_20.out.below b17)
  have RU_21 := Lib.hid (RU_20.out.below b17)
  have RM_21 := Lib.hid (RM_20.out.below b17)
  have RD_21 := Lib.hid (RD_20.out.below b17)
  clear H_20 RA_20 RU_20 RM_20 RD_20
  go_wp2_with fail
  refine (CS.out (1) (4) _).mono ?_
  rintro en w18 ⟨rfl, b18⟩
  have H_22 := Lib.hid (bt H_21.out b18)
  have RA_22 := Lib.hid (RA_21.out.below b18)
  have RU_22 := Lib.hid (RU_21.out.below b18)
  have RM_22 := Lib.hid (RM_21.out.below b18)
  have RD_22 := Lib.hid (RD_21.out.below b18)
  clear H_21 RA_21 RU_21 RM_21 RD_21
  go_wp2_with fail
  refine (CS.out (5) (7) _).mono ?_
  rintro en w19 ⟨rfl, b19⟩
  have H_23 := Lib.hid (bt H_22.out b19)
  have RA_23 := Lib.hid (RA_22.out.below b19)
  have RU_23 := Lib.hid (RU_22.out.below b19)
  have RM_23 := Lib.hid (RM_22.out.below b19)
  have RD_23 := Lib.hid (RD_22.out.below b19)
  clear H_22 RA_22 RU_22 RM_22 RD_22
  have RL24 := Lib.hid (rd_lit elS [(1, 4), (5, 7)] w19 39 (0, 0) w19.heap.size rfl (by simp [maxLen]))
  have H_25 := Lib.hid (bt H_23.out ((br w19).alloc (Nat.le_refl _) (.cells #[.int .i64 1, .int .i64 4, .int .i64 5, .int .i64 7] 39)))
  have RA_25 := Lib.hid (RA_23.out.below ((br w19).alloc (Nat.le_refl _) (.cells #[.int .i64 1, .int .i64 4, .int .i64 5, .int .i64 7] 39)))
  have RU_25 := Lib.hid (RU_23.out.below ((br w19).alloc (Nat.le_refl _) (.cells #[.int .i64 1, .int .i64 4, .int .i64 5, .int .i64 7] 39)))
  have RM_25 := Lib.hid (RM_23.out.below ((br w19).alloc (Nat.le_refl _) (.cells #[.int .i64 1, .int .i64 4, .int .i64 5, .int .i64 7] 39)))
  have RD_25 := Lib.hid (RD_23.out.below ((br w19).alloc (Nat.le_refl _) (.cells #[.int .i64 1, .int .i64 4, .int .i64 5, .int .i64 7] 39)))
  clear H_23 RA_23 RU_23 RM_23 RD_23
  go_wp2_with fail
  refine (CL.out _ _).mono ?_
  rintro en wL ⟨rfl, e20⟩
  subst e20
  go_wp2_with fail
  refine (SA.out _ _ _ RA_25.out RL24.out).mono ?_
  rintro en w21 ⟨rfl, b21⟩
  have H_26 := Lib.hid (bt H_25.out b21)
  have RA_26 := Lib.hid (RA_25.out.below b21)
  have RU_26 := Lib.hid (RU_25.out.below b21)
  have RM_26 := Lib.hid (RM_25.out.below b21)
  have RD_26 := Lib.hid (RD_25.out.below b21)
  have RL_26 := Lib.hid (RL24.out.below b21)
  clear H_25 RA_25 RU_25 RM_25 RD_25 RL24
  clear RL_26
  go_wp2_with fail
  refine (CS.out (1) (7) _).mono ?_
  rintro en w22 ⟨rfl, b22⟩
  have H_27 := Lib.hid (bt H_26.out b22)
  have RA_27 := Lib.hid (RA_26.out.below b22)
  have RU_27 := Lib.hid (RU_26.out.below b22)
  have RM_27 := Lib.hid (RM_26.out.below b22)
  have RD_27 := Lib.hid (RD_26.out.below b22)
  clear H_26 RA_26 RU_26 RM_26 RD_26
  have RL28 := Lib.hid (rd_lit elS [(1, 7)] w22 39 (0, 0) w22.heap.size rfl (by simp [maxLen]))
  have H_29 := Lib.hid (bt H_27.out ((br w22).alloc (Nat.le_refl _) (.cells #[.int .i64 1, .int .i64 7] 39)))
  have RA_29 := Lib.hid (RA_27.out.below ((br w22).alloc (Nat.le_refl _) (.cells #[.int .i64 1, .int .i64 7] 39)))
  have RU_29 := Lib.hid (RU_27.out.below ((br w22).alloc (Nat.le_refl _) (.cells #[.int .i64 1, .int .i64 7] 39)))
  have RM_29 := Lib.hid (RM_27.out.below ((br w22).alloc (Nat.le_refl _) (.cells #[.int .i64 1, .int .i64 7] 39)))
  have RD_29 := Lib.hid (RD_27.out.below ((br w22).alloc (Nat.le_refl _) (.cells #[.int .i64 1, .int .i64 7] 39)))
  clear H_27 RA_27 RU_27 RM_27 RD_27
  go_wp2_with fail
  refine (CL.out _ _).mono ?_
  rintro en wL ⟨rfl, e23⟩
  subst e23
  go_wp2_with fail
  refine (SU.out _ _ _ RU_29.out RL28.out).mono ?_
  rintro en w24 ⟨rfl, b24⟩
  have H_30 := Lib.hid (bt H_29.out b24)
  have RA_30 := Lib.hid (RA_29.out.below b24)
  have RU_30 := Lib.hid (RU_29.out.below b24)
  have RM_30 := Lib.hid (RM_29.out.below b24)
  have RD_30 := Lib.hid (RD_29.out.below b24)
  have RL_30 := Lib.hid (RL28.out.below b24)
  clear H_29 RA_29 RU_29 RM_29 RD_29 RL28
  clear RL_30
  go_wp2_with fail
  refine (CS.out (2) (4) _).mono ?_
  rintro en w25 ⟨rfl, b25⟩
  have H_31 := Lib.hid (bt H_30.out b25)
  have RA_31 := Lib.hid (RA_30.out.below b25)
  have RU_31 := Lib.hid (RU_30.out.below b25)
  have RM_31 := Lib.hid (RM_30.out.below b25)
  have RD_31 := Lib.hid (RD_30.out.below b25)
  clear H_30 RA_30 RU_30 RM_30 RD_30
  go_wp2_with fail
  refine (CS.out (5) (6) _).mono ?_
  rintro en w26 ⟨rfl, b26⟩
  have H_32 := Lib.hid (bt H_31.out b26)
  have RA_32 := Lib.hid (RA_31.out.below b26)
  have RU_32 := Lib.hid (RU_31.out.below b26)
  have RM_32 := Lib.hid (RM_31.out.below b26)
  have RD_32 := Lib.hid (RD_31.out.below b26)
  clear H_31 RA_31 RU_31 RM_31 RD_31
  have RL33 := Lib.hid (rd_lit elS [(2, 4), (5, 6)] w26 39 (0, 0) w26.heap.size rfl (by simp [maxLen]))
  have H_34 := Lib.hid (bt H_32.out ((br w26).alloc (Nat.le_refl _) (.cells #[.int .i64 2, .int .i64 4, .int .i64 5, .int .i64 6] 39)))
  have RA_34 := Lib.hid (RA_32.out.below ((br w26).alloc (Nat.le_refl _) (.cells #[.int .i64 2, .int .i64 4, .int .i64 5, .int .i64 6] 39)))
  have RU_34 := Lib.hid (RU_32.out.below ((br w26).alloc (Nat.le_refl _) (.cells #[.int .i64 2, .int .i64 4, .int .i64 5, .int .i64 6] 39)))
  have RM_34 := Lib.hid (RM_32.out.below ((br w26).alloc (Nat.le_refl _) (.cells #[.int .i64 2, .int .i64 4, .int .i64 5, .int .i64 6] 39)))
  have RD_34 := Lib.hid (RD_32.out.below ((br w26).alloc (Nat.le_refl _) (.cells #[.int .i64 2, .int .i64 4, .int .i64 5, .int .i64 6] 39)))
  clear H_32 RA_32 RU_32 RM_32 RD_32
  go_wp2_with fail
  refine (CL.out _ _).mono ?_
  rintro en wL ⟨rfl, e27⟩
  subst e27
  go_wp2_with fail
  refine (SM.out _ _ _ RM_34.out RL33.out).mono ?_
  rintro en w28 ⟨rfl, b28⟩
  have H_35 := Lib.hid (bt H_34.out b28)
  have RA_35 := Lib.hid (RA_34.out.below b28)
  have RU_35 := Lib.hid (RU_34.out.below b28)
  have RM_35 := Lib.hid (RM_34.out.below b28)
  have RD_35 := Lib.hid (RD_34.out.below b28)
  have RL_35 := Lib.hid (RL33.out.below b28)
  clear H_34 RA_34 RU_34 RM_34 RD_34 RL33
  clear RL_35
  go_wp2_with fail
  refine (CS.out (1) (2) _).mono ?_
  rintro en w29 ⟨rfl, b29⟩
  have H_36 := Lib.hid (bt H_35.out b29)
  have RA_36 := Lib.hid (RA_35.out.below b29)
  have RU_36 := Lib.hid (RU_35.out.below b29)
  have RM_36 := Lib.hid (RM_35.out.below b29)
  have RD_36 := Lib.hid (RD_35.out.below b29)
  clear H_35 RA_35 RU_35 RM_35 RD_35
  go_wp2_with fail
  refine (CS.out (6) (7) _).mono ?_
  rintro en w30 ⟨rfl, b30⟩
  have H_37 := Lib.hid (bt H_36.out b30)
  have RA_37 := Lib.hid (RA_36.out.below b30)
  have RU_37 := Lib.hid (RU_36.out.below b30)
  have RM_37 := Lib.hid (RM_36.out.below b30)
  have RD_37 := Lib.hid (RD_36.out.below b30)
  clear H_36 RA_36 RU_36 RM_36 RD_36
  have RL38 := Lib.hid (rd_lit elS [(1, 2), (6, 7)] w30 39 (0, 0) w30.heap.size rfl (by simp [maxLen]))
  have H_39 := Lib.hid (bt H_37.out ((br w30).alloc (Nat.le_refl _) (.cells #[.int .i64 1, .int .i64 2, .int .i64 6, .int .i64 7] 39)))
  have RA_39 := Lib.hid (RA_37.out.below ((br w30).alloc (Nat.le_refl _) (.cells #[.int .i64 1, .int .i64 2, .int .i64 6, .int .i64 7] 39)))
  have RU_39 := Lib.hid (RU_37.out.below ((br w30).alloc (Nat.le_refl _) (.cells #[.int .i64 1, .int .i64 2, .int .i64 6, .int .i64 7] 39)))
  have RM_39 := Lib.hid (RM_37.out.below ((br w30).alloc (Nat.le_refl _) (.cells #[.int .i64 1, .int .i64 2, .int .i64 6, .int .i64 7] 39)))
  have RD_39 := Lib.hid (RD_37.out.below ((br w30).alloc (Nat.le_refl _) (.cells #[.int .i64 1, .int .i64 2, .int .i64 6, .int .i64 7] 39)))
  clear H_37 RA_37 RU_37 RM_37 RD_37
  go_wp2_with fail
  refine (CL.out _ _).mono ?_
  rintro en wL ⟨rfl, e31⟩
  subst e31
  go_wp2_with fail
  refine (SD.out _ _ _ RD_39.out RL38.out).mono ?_
  rintro en w32 ⟨rfl, b32⟩
  have H_40 := Lib.hid (bt H_39.out b32)
  have RA_40 := Lib.hid (RA_39.out.below b32)
  have RU_40 := Lib.hid (RU_39.out.below b32)
  have RM_40 := Lib.hid (RM_39.out.below b32)
  have RD_40 := Lib.hid (RD_39.out.below b32)
  have RL_40 := Lib.hid (RL38.out.below b32)
  clear H_39 RA_39 RU_39 RM_39 RD_39 RL38
  clear RL_40
  go_wp2_with fail
  refine (CS.out (1) (2) _).mono ?_
  rintro en w33 ⟨rfl, b33⟩
  have H_41 := Lib.hid (bt H_40.out b33)
  have RA_41 := Lib.hid (RA_40.out.below b33)
  have RU_41 := Lib.hid (RU_40.out.below b33)
  have RM_41 := Lib.hid (RM_40.out.below b33)
  have RD_41 := Lib.hid (RD_40.out.below b33)
  clear H_40 RA_40 RU_40 RM_40 RD_40
  go_wp2_with fail
  refine (CS.out (2) (3) _).mono ?_
  rintro en w34 ⟨rfl, b34⟩
  have H_42 := Lib.hid (bt H_41.out b34)
  have RA_42 := Lib.hid (RA_41.out.below b34)
  have RU_42 := Lib.hid (RU_41.out.below b34)
  have RM_42 := Lib.hid (RM_41.out.below b34)
  have RD_42 := Lib.hid (RD_41.out.below b34)
  clear H_41 RA_41 RU_41 RM_41 RD_41
  have RL43 := Lib.hid (rd_lit elS [(1, 2), (2, 3)] w34 39 (0, 0) w34.heap.size rfl (by simp [maxLen]))
  have H_44 := Lib.hid (bt H_42.out ((br w34).alloc (Nat.le_refl _) (.cells #[.int .i64 1, .int .i64 2, .int .i64 2, .int .i64 3] 39)))
  have RA_44 := Lib.hid (RA_42.out.below ((br w34).alloc (Nat.le_refl _) (.cells #[.int .i64 1, .int .i64 2, .int .i64 2, .int .i64 3] 39)))
  have RU_44 := Lib.hid (RU_42.out.below ((br w34).alloc (Nat.le_refl _) (.cells #[.int .i64 1, .int .i64 2, .int .i64 2, .int .i64 3] 39)))
  have RM_44 := Lib.hid (RM_42.out.below ((br w34).alloc (Nat.le_refl _) (.cells #[.int .i64 1, .int .i64 2, .int .i64 2, .int .i64 3] 39)))
  have RD_44 := Lib.hid (RD_42.out.below ((br w34).alloc (Nat.le_refl _) (.cells #[.int .i64 1, .int .i64 2, .int .i64 2, .int .i64 3] 39)))
  clear H_42 RA_42 RU_42 RM_42 RD_42
  go_wp2_with fail
  refine (CL.out _ _).mono ?_
  rintro en wL ⟨rfl, e35⟩
  subst e35
  go_wp2_with fail
  refine (CK.out _ _ RL43.out).mono ?_
  rintro en w36 ⟨rfl, b36⟩
  have H_45 := Lib.hid (bt H_44.out b36)
  have RA_45 := Lib.hid (RA_44.out.below b36)
  have RU_45 := Lib.hid (RU_44.out.below b36)
  have RM_45 := Lib.hid (RM_44.out.below b36)
  have RD_45 := Lib.hid (RD_44.out.below b36)
  have RL_45 := Lib.hid (RL43.out.below b36)
  clear H_44 RA_44 RU_44 RM_44 RD_44 RL43
  go_wp2
  go_ret
  exact ⟨rfl, H_45.out⟩
end Sn
end Go.Proofs.Ytncpgfmamhjekaa
