/- What is due: what must be in any case. -/
import Derived.Test.YtjicpflgkhdppaaDuePlanR
import Derived.Test.YtjicpflgkhdppaaWorkBegun
set_option linter.unusedSimpArgs false
set_option linter.unusedVariables false
namespace Go.Proofs.Ytjicpflgkhdppaa
open Go.RowKit
namespace Du
open Dt Wk Sh
set_option maxHeartbeats 400000 in
theorem months_any (m : Int) (w : World) : Calls Try.prog 59 #[.int .i64 m] w fun e w' => e = .returned (.agg #[.int .i64 3, .int .i64 m]) ∧ Below w.heap.size w w' := by
  go_enter Try.func59, Try.ntmps59
  go_wp2
  refine bodyPost_ret (v := .agg #[.int .i64 3, .int .i64 m]) (by simp [results, Try.results59, go_sem]) rfl ⟨rfl, ?_⟩
  exact (br _).alloc (Nat.le_refl _) _
theorem inst0 : inst restU rulesU 3 1 738156 0 = (738159, 0) := by
  unfold inst
  rw [show nthF 3 1 738156 0 = (738156, 0) by decide, if_neg (by simp)]; exact nextPU
theorem next1 (n : Int) (h : inB n = true) (hw : isW restU rulesU n = true) : nextP restU rulesU n = (n, 0) := by
  rw [nextPe n calU, nextF_step _ _ _ h, if_pos hw]
theorem inst1 : inst restU rulesU 3 1 738156 1 = (738187, 0) := by
  unfold inst
  rw [show nthF 3 1 738156 1 = (738187, 0) by decide, if_neg (by simp)]; exact next1 738187 (by decide) (by decide +kernel)
theorem inst2 : inst restU rulesU 3 1 738156 2 = (738215, 0) := by
  unfold inst
  rw [show nthF 3 1 738156 2 = (738215, 0) by decide, if_neg (by simp)]; exact next1 738215 (by decide) (by decide +kernel)
theorem planU : planF restU rulesU 3 1 738156 1000 3 = ([(738159, 334), (738187, 333), (738215, 333)], 0) := by
  unfold planF
  rw [if_neg (by decide)]
  have p1 : planL restU rulesU 3 1 738156 1000 3 1 = ([(738159, 334)], 0) := by
    have h := inst0
    rw [planL_ok _ _ _ _ _ _ _ 0 rfl (by show (inst restU rulesU 3 1 738156 0).2 = 0; rw [h])]
    show ([] ++ [((inst restU rulesU 3 1 738156 0).1, evenP 1000 3 0)], (0 : Int)) = _
    rw [h]; rfl
  have p2 : planL restU rulesU 3 1 738156 1000 3 2 = ([(738159, 334), (738187, 333)], 0) := by
    have h := inst1
    rw [planL_ok _ _ _ _ _ _ _ 1 (by rw [p1]) (by show (inst restU rulesU 3 1 738156 1).2 = 0; rw [h]), p1]
    show ([(738159, 334)] ++ [((inst restU rulesU 3 1 738156 1).1, evenP 1000 3 1)], (0 : Int)) = _
    rw [h]; rfl
  show planL restU rulesU 3 1 738156 1000 3 3 = _
  have h := inst2
  rw [planL_ok _ _ _ _ _ _ _ 2 (by rw [p2]) (by show (inst restU rulesU 3 1 738156 2).2 = 0; rw [h]), p2]
  show ([(738159, 334), (738187, 333)] ++ [((inst restU rulesU 3 1 738156 2).1, evenP 1000 3 2)], (0 : Int)) = _
  rw [h]; rfl
set_option maxRecDepth 100000 in
set_option maxHeartbeats 16000000 in
theorem duesBegun_any (w : World) : Calls Try.prog 33 #[] w fun e w' => e = .returned (.bool true) ∧ Below w.heap.size w w' := by
  have CU := Lib.hid usual_any
  have CD := Lib.hid (dayL_any 2022 1 1)
  have CM := Lib.hid (months_any 1)
  have CY : RowKit.Hid (∀ w, Calls Try.prog 41 #[.agg #[.int .i64 2022, .int .i64 1, .int .i64 1]] w fun e w' => e = .returned (.tuple #[.int .i64 738156, .int .i64 0]) ∧ Below w.heap.size w w') := Lib.hid (fun w => by
    have := Dt.day_any 2022 1 1 w
    unfold DayQ at this
    rw [show dayOf 2022 1 1 = (738156, 0) by decide] at this; exact this)
  have CP : RowKit.Hid (∀ u w, RdE elRl w u rulesU → Calls Try.prog 28 #[cU u, .int .i64 738156, .agg #[.int .i64 3, .int .i64 1], .int .i64 1000, .int .i64 3] w (fun e w' => ∃ v, e = .returned (.tuple #[v, .int .i64 0]) ∧ RdE elU w' v [(738159, 334), (738187, 333), (738215, 333)] ∧ Below w.heap.size w w')) := Lib.hid (fun u w h => by
    have := plan_any restU rfl u rulesU 738156 3 1 1000 3 w h
    unfold PlanQ at this
    rw [planU] at this; exact this)
  have CA : RowKit.Hid (∀ v w, RdE elU w v [(738159, 334), (738187, 333), (738215, 333)] → Calls Try.prog 29 #[v, .int .i64 738187] w (fun e w' => e = .returned (.tuple #[.int .i64 667, .int .i64 333, .int .i64 0]) ∧ Below w.heap.size w w')) := Lib.hid (fun v w h => by
    have := paid_any v _ 738187 w h
    unfold PaidQ at this
    rw [show chkU [(738159, 334), (738187, 333), (738215, 333)] = 0 by decide] at this; exact this)
  have CS : RowKit.Hid (∀ v u w, RdE elU w v [(738159, 334), (738187, 333), (738215, 333)] → RdE elU w u [(738159, 334), (738187, 333), (738215, 333)] → Calls Try.prog 34 #[v, u] w fun e w' => e = .returned (.bool true) ∧ Below w.heap.size w w') := Lib.hid (fun v u w h h' => sameU_yes v u _ w h h')
  have CK : RowKit.Hid (∀ u w, RdE elRl w u rulesU → Calls Try.prog 15 #[cU u] w (IntB 0 w)) := Lib.hid (fun u w h => by
    have := Wk.check_any restU rfl u rulesU w h
    rw [calU] at this; exact this)
  go_enter Try.func33, Try.ntmps33
  go_wp2_with fail
  refine (CD.out _).mono ?_
  rintro en w1 ⟨rfl, q1⟩
  have H1 := Lib.hid q1
  clear q1
  go_wp2_with fail
  refine (CY.out _).mono ?_
  rintro en w2 ⟨rfl, q2⟩
  have H2 := Lib.hid (bt H1.out q2)
  clear q2
  go_wp2_with fail
  refine (CU.out _).mono ?_
  rintro en w3 ⟨u3, rfl, r3, q3⟩
  have H3 := Lib.hid (bt H2.out q3)
  have R3 := Lib.hid r3
  clear q3 r3
  go_wp2_with fail
  refine (CM.out _).mono ?_
  rintro en w4 ⟨rfl, q4⟩
  have H4 := Lib.hid (bt H3.out q4)
  have R4 := Lib.hid (R3.out.below q4)
  clear q4
  go_wp2_with fail
  refine (CP.out _ _ R4.out).mono ?_
  rintro en w5 ⟨v5, rfl, r5, q5⟩
  have H5 := Lib.hid (bt H4.out q5)
  have R5 := Lib.hid r5
  clear q5 r5 R3 R4
  go_wp2_with fail
  refine (CA.out _ _ R5.out).mono ?_
  rintro en w6 ⟨rfl, q6⟩
  have H6 := Lib.hid (bt H5.out q6)
  have R6 := Lib.hid (R5.out.below q6)
  clear q6
  have A6 := Lib.hid ((br w6).alloc (Nat.le_refl _) (.cells #[.int .i64 738159, .int .i64 334, .int .i64 738187, .int .i64 333, .int .i64 738215, .int .i64 333] 61))
  have H7 := Lib.hid (bt H6.out A6.out)
  have R7 := Lib.hid (R6.out.below A6.out)
  have L7 := Lib.hid (rd_lit elU [(738159, 334), (738187, 333), (738215, 333)] w6 61 (0, 0) w6.heap.size rfl (by simp [maxLen]))
  go_wp2_with fail
  refine (CS.out _ _ _ R7.out L7.out).mono ?_
  rintro en w8 ⟨rfl, q8⟩
  have H8 := Lib.hid (bt H7.out q8)
  clear q8
  go_wp2_with fail
  refine (CU.out _).mono ?_
  rintro en w9 ⟨u9, rfl, r9, q9⟩
  have H9 := Lib.hid (bt H8.out q9)
  have R9 := Lib.hid r9
  clear q9 r9
  go_wp2_with fail
  refine (CK.out _ _ R9.out).mono ?_
  rintro en wa ⟨rfl, qa⟩
  have HA := Lib.hid (bt H9.out qa)
  clear qa
  go_wp2
  go_ret
  exact ⟨by first | rfl | (simp; done), HA.out⟩
end Du
end Go.Proofs.Ytjicpflgkhdppaa
