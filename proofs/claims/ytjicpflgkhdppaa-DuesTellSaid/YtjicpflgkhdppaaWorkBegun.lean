/- Days of work: what must be in any case. -/
import Derived.Test.YtjicpflgkhdppaaWorkRefs
set_option linter.unusedSimpArgs false
set_option linter.unusedVariables false
namespace Go.Proofs.Ytjicpflgkhdppaa
open Go.RowKit
namespace Wk
open Dt
def rulesU : List Rl := [(1, 1, 1, 0), (3, 0, 1, 0), (2, 5, 5, 1)]
abbrev restU : List Bool := [false, false, false, false, false, true, true]
abbrev cU (u : Value) : Value := .agg #[.bool false, .bool false, .bool false, .bool false, .bool false, .bool true, .bool true, u]
set_option maxHeartbeats 2000000 in
theorem usual_any (w : World) : Calls Try.prog 40 #[] w fun e w' => ∃ u, e = .returned (cU u) ∧ RdE elRl w' u rulesU ∧ Below w.heap.size w w' := by
  go_enter Try.func40, Try.ntmps40
  go_wp2
  refine bodyPost_ret (v := .agg #[.bool false, .bool false, .bool false, .bool false, .bool false, .bool true, .bool true, .slice (some ⟨w.heap.size + 1, 0, none⟩) 3 3]) (by simp [results, Try.results40, go_sem]) rfl ⟨_, rfl, ?_, ?_⟩
  · exact rd_lit elRl rulesU _ _ _ _ (asz _ _) (by simp [maxLen, rulesU])
  · exact ((br w).alloc (Nat.le_refl _) _).alloc (by simp) _
set_option maxHeartbeats 400000 in
theorem dayL_any (y m d : Int) (w : World) : Calls Try.prog 42 #[.int .i64 y, .int .i64 m, .int .i64 d] w fun e w' => e = .returned (.agg #[.int .i64 y, .int .i64 m, .int .i64 d]) ∧ Below w.heap.size w w' := by
  go_enter Try.func42, Try.ntmps42
  go_wp2
  refine bodyPost_ret (v := .agg #[.int .i64 y, .int .i64 m, .int .i64 d]) (by simp [results, Try.results42, go_sem]) rfl ⟨rfl, ?_⟩
  exact (br _).alloc (Nat.le_refl _) _
theorem calU : calE restU rulesU = 0 := by decide
theorem holU : holF restU rulesU 2022 = ([738158, 738263, 738305], 0) := by
  unfold holF
  rw [if_neg (fun h => h calU), if_neg (by decide)]
  congr 1
  refine inc_ext _ _ (hol_inc _ _ _) (by decide) (fun x => ?_)
  rw [hol_mem]
  have : days restU rulesU 2022 = [738158, 738263, 738305] := by decide +kernel
  rw [this]
theorem wU0 : isW restU rulesU 738155 = true := by decide +kernel
theorem wU1 : isW restU rulesU 738156 = false := by decide +kernel
theorem wU2 : isW restU rulesU 738157 = false := by decide +kernel
theorem wU3 : isW restU rulesU 738158 = false := by decide +kernel
theorem wU4 : isW restU rulesU 738159 = true := by decide +kernel
theorem nextU : nextF restU rulesU 738156 = (738159, 0) := by
  rw [nextF_step _ _ _ (by decide), wU1, if_neg (by decide), nextF_step _ _ _ (by decide), show (738156 + 1 : Int) = 738157 from rfl, wU2, if_neg (by decide), nextF_step _ _ _ (by decide), show (738157 + 1 : Int) = 738158 from rfl, wU3, if_neg (by decide), nextF_step _ _ _ (by decide), show (738158 + 1 : Int) = 738159 from rfl, wU4, if_pos rfl]
theorem nextPU : nextP restU rulesU 738156 = (738159, 0) := by unfold nextP; rw [if_neg (fun h => h calU), nextU]
theorem addPU : addP restU rulesU 738155 1 = (738159, 0) := by
  unfold addP addF
  rw [if_neg (fun h => h calU), if_neg (by decide)]
  show (if (nextF restU rulesU (738155 + 1)).2 ≠ 0 then (0, (nextF restU rulesU (738155 + 1)).2) else adds restU rulesU 0 (nextF restU rulesU (738155 + 1)).1) = _
  rw [show (738155 + 1 : Int) = 738156 from rfl, nextU]; rfl
theorem countPU : countP restU rulesU 738155 738160 = (2, 0) := by
  unfold countP countF
  rw [if_neg (fun h => h calU), if_neg (by decide), if_neg (by decide), if_neg (by decide)]
  show (cnt restU rulesU 738155 5, (0 : Int)) = _
  simp only [cnt]
  rw [show (738155 + ((0 : Nat) : Int)) = 738155 from rfl, show (738155 + ((1 : Nat) : Int)) = 738156 from rfl, show (738155 + ((2 : Nat) : Int)) = 738157 from rfl, show (738155 + ((3 : Nat) : Int)) = 738158 from rfl, show (738155 + ((4 : Nat) : Int)) = 738159 from rfl, wU0, wU1, wU2, wU3, wU4]
  rfl
set_option maxRecDepth 100000 in
set_option maxHeartbeats 16000000 in
theorem begun_any (w : World) : Calls Try.prog 14 #[] w (RetB (.bool true) w) := by
  have CU := Lib.hid usual_any
  have CD := Lib.hid dayL_any
  have CH : RowKit.Hid (∀ u w, RdE elRl w u rulesU → Calls Try.prog 12 #[cU u, .int .i64 2022] w (fun e w' => ∃ v, e = .returned (.tuple #[v, .int .i64 0]) ∧ RdE elZ w' v [738158, 738263, 738305] ∧ Below w.heap.size w w')) := Lib.hid (fun u w h => by
    have := hol_any restU rfl u rulesU 2022 w h
    rw [holU] at this; exact this)
  have CN : RowKit.Hid (∀ u w, RdE elRl w u rulesU → Calls Try.prog 21 #[cU u, .int .i64 738156] w (RetB (.tuple #[.int .i64 738159, .int .i64 0]) w)) := Lib.hid (fun u w h => by
    have := nextP_any restU rfl u rulesU 738156 w h
    rw [nextPU] at this; exact this)
  have CA : RowKit.Hid (∀ u w, RdE elRl w u rulesU → Calls Try.prog 18 #[cU u, .int .i64 738155, .int .i64 1] w (RetB (.tuple #[.int .i64 738159, .int .i64 0]) w)) := Lib.hid (fun u w h => by
    have := addP_any restU rfl u rulesU 738155 1 w h
    rw [addPU] at this; exact this)
  have CC : RowKit.Hid (∀ u w, RdE elRl w u rulesU → Calls Try.prog 19 #[cU u, .int .i64 738155, .int .i64 738160] w (RetB (.tuple #[.int .i64 2, .int .i64 0]) w)) := Lib.hid (fun u w h => by
    have := countP_any restU rfl u rulesU 738155 738160 w h
    rw [countPU] at this; exact this)
  have CK : RowKit.Hid (∀ w, Calls Try.prog 15 #[.agg #[.bool true, .bool true, .bool true, .bool true, .bool true, .bool true, .bool true, .slice none 0 0]] w (IntB 1 w)) := Lib.hid (fun w => check_t _ [] w (Rd.nil _))
  have CO1 : RowKit.Hid (∀ w, Calls Try.prog 27 #[.int .i64 738158] w fun e w' => e = .returned (.tuple #[.agg #[.int .i64 2022, .int .i64 1, .int .i64 3], .int .i64 0]) ∧ Below w.heap.size w w') := Lib.hid (fun w => by
    have := Dt.of_any 738158 w
    unfold OfQ at this
    rw [show ofF 738158 = ((2022, 1, 3), 0) by decide] at this; exact this)
  have CO2 : RowKit.Hid (∀ w, Calls Try.prog 27 #[.int .i64 738263] w fun e w' => e = .returned (.tuple #[.agg #[.int .i64 2022, .int .i64 4, .int .i64 18], .int .i64 0]) ∧ Below w.heap.size w w') := Lib.hid (fun w => by
    have := Dt.of_any 738263 w
    unfold OfQ at this
    rw [show ofF 738263 = ((2022, 4, 18), 0) by decide] at this; exact this)
  have CO3 : RowKit.Hid (∀ w, Calls Try.prog 27 #[.int .i64 738305] w fun e w' => e = .returned (.tuple #[.agg #[.int .i64 2022, .int .i64 5, .int .i64 30], .int .i64 0]) ∧ Below w.heap.size w w') := Lib.hid (fun w => by
    have := Dt.of_any 738305 w
    unfold OfQ at this
    rw [show ofF 738305 = ((2022, 5, 30), 0) by decide] at this; exact this)
  have CY : RowKit.Hid (∀ w, Calls Try.prog 41 #[.agg #[.int .i64 2021, .int .i64 12, .int .i64 31]] w fun e w' => e = .returned (.tuple #[.int .i64 738155, .int .i64 0]) ∧ Below w.heap.size w w') := Lib.hid (fun w => by
    have := Dt.day_any 2021 12 31 w
    unfold DayQ at this
    rw [show dayOf 2021 12 31 = (738155, 0) by decide] at this; exact this)
  unfold RetB at CN CA CC
  go_enter Try.func14, Try.ntmps14
  go_wp2_with fail
  refine (CU.out _).mono ?_
  rintro en w1 ⟨u1, rfl, r1, b1⟩
  have H1 := Lib.hid b1
  have R1 := Lib.hid r1
  clear b1 r1
  go_wp2_with fail
  refine (CH.out _ _ R1.out).mono ?_
  rintro en w2 ⟨v2, rfl, r2, b2⟩
  have H2 := Lib.hid (bt H1.out b2)
  obtain ⟨a, cap, rfl, g1, g2, g3⟩ := r2
  obtain ⟨g, off, rfl, hbl, hc⟩ := g3 (by decide)
  have d0 := eI_at hc 0 (by decide); have d1 := eI_at hc 1 (by decide); have d2 := eI_at hc 2 (by decide)
  simp only [List.length_cons, List.length_nil, List.getElem_cons_zero, List.getElem_cons_succ, Nat.add_zero] at d0 d1 d2 g1 ⊢
  clear b2 g3 hc H1 R1
  go_wp2_with fail
  refine (CO1.out _).mono ?_
  rintro en w3 ⟨rfl, b3⟩
  have H3 := Lib.hid (bt H2.out b3)
  have d1 := kp b3 d1; have d2 := kp b3 d2
  clear b3 d0
  have HA := Lib.hid (Box.new w3 46 [.int .i64 2022, .int .i64 1, .int .i64 3])
  have e3 := (br w3).alloc (Nat.le_refl _) (.cells #[.int .i64 2022, .int .i64 1, .int .i64 3] 46)
  have d1 := kp e3 d1; have d2 := kp e3 d2
  have H3' := Lib.hid (bt H3.out e3)
  clear e3
  go_wp2_with fail
  refine (CO2.out _).mono ?_
  rintro en w4 ⟨rfl, b4⟩
  have H4 := Lib.hid (bt H3'.out b4)
  have HA4 := Lib.hid (HA.out.next b4)
  have d2 := kp b4 d2
  clear b4 d1
  have HB := Lib.hid (Box.new w4 46 [.int .i64 2022, .int .i64 4, .int .i64 18])
  have e4 := (br w4).alloc (Nat.le_refl _) (.cells #[.int .i64 2022, .int .i64 4, .int .i64 18] 46)
  have d2 := kp e4 d2
  have H4' := Lib.hid (bt H4.out e4)
  have HA5 := Lib.hid (HA4.out.next e4)
  clear e4
  go_wp2_with fail
  refine (CO3.out _).mono ?_
  rintro en w5 ⟨rfl, b5⟩
  have H5 := Lib.hid (bt H4'.out b5)
  have HA6 := Lib.hid (HA5.out.next b5)
  have HB6 := Lib.hid (HB.out.next b5)
  clear b5 d2
  have HC := Lib.hid (Box.new w5 46 [.int .i64 2022, .int .i64 5, .int .i64 30])
  have e5 := (br w5).alloc (Nat.le_refl _) (.cells #[.int .i64 2022, .int .i64 5, .int .i64 30] 46)
  have H5' := Lib.hid (bt H5.out e5)
  have HA7 := Lib.hid (HA6.out.next e5)
  have HB7 := Lib.hid (HB6.out.next e5)
  clear e5
  go_wp2_with fail
  refine (CD.out _ _ _ _).mono ?_
  rintro en w6 ⟨rfl, b6⟩
  have H6 := Lib.hid (bt H5'.out b6)
  have HA8 := Lib.hid (HA7.out.next b6); have HB8 := Lib.hid (HB7.out.next b6); have HC8 := Lib.hid (HC.out.next b6)
  clear b6
  go_wp2_with fail
  refine (CY.out _).mono ?_
  rintro en w7 ⟨rfl, b7⟩
  have H7 := Lib.hid (bt H6.out b7)
  have HA9 := Lib.hid (HA8.out.next b7); have HB9 := Lib.hid (HB8.out.next b7); have HC9 := Lib.hid (HC8.out.next b7)
  clear b7
  go_wp2_with fail
  refine (CU.out _).mono ?_
  rintro en w8 ⟨u8, rfl, r8, b8⟩
  have R8 := Lib.hid r8
  have H8 := Lib.hid (bt H7.out b8)
  have HA10 := Lib.hid (HA9.out.next b8); have HB10 := Lib.hid (HB9.out.next b8); have HC10 := Lib.hid (HC9.out.next b8)
  clear b8 r8
  go_wp2_with fail
  refine (CN.out _ _ R8.out).mono ?_
  rintro en w9 ⟨rfl, b9⟩
  have H9 := Lib.hid (bt H8.out b9)
  have HA11 := Lib.hid (HA10.out.next b9); have HB11 := Lib.hid (HB10.out.next b9); have HC11 := Lib.hid (HC10.out.next b9)
  clear b9
  go_wp2_with fail
  refine (CU.out _).mono ?_
  rintro en wa ⟨ua, rfl, ra, ba⟩
  have RA := Lib.hid ra
  have H10 := Lib.hid (bt H9.out ba)
  have HA12 := Lib.hid (HA11.out.next ba); have HB12 := Lib.hid (HB11.out.next ba); have HC12 := Lib.hid (HC11.out.next ba)
  clear ba ra
  go_wp2_with fail
  refine (CA.out _ _ RA.out).mono ?_
  rintro en wb ⟨rfl, bb⟩
  have H11 := Lib.hid (bt H10.out bb)
  have HA13 := Lib.hid (HA12.out.next bb); have HB13 := Lib.hid (HB12.out.next bb); have HC13 := Lib.hid (HC12.out.next bb)
  clear bb
  go_wp2_with fail
  refine (CU.out _).mono ?_
  rintro en wc ⟨uc, rfl, rc, bc⟩
  have RC := Lib.hid rc
  have H12 := Lib.hid (bt H11.out bc)
  have HA14 := Lib.hid (HA13.out.next bc); have HB14 := Lib.hid (HB13.out.next bc); have HC14 := Lib.hid (HC13.out.next bc)
  clear bc rc
  go_wp2_with fail
  refine (CC.out _ _ RC.out).mono ?_
  rintro en wd ⟨rfl, bd'⟩
  have H13 := Lib.hid (bt H12.out bd')
  have ha := HA14.out.next bd'; have hb := HB14.out.next bd'; have hc := HC14.out.next bd'
  clear bd' CU CH CN CA CC CO1 CO2 CO3 CY H12 H11 H10 H9 H8 H7 H6 H5 H4 H3 H2 HA HB HC HA4 HA5 HA6 HA7 HA8 HA9 HA10 HA11 HA12 HA13 HA14 HB6 HB7 HB8 HB9 HB10 HB11 HB12 HB13 HB14 HC8 HC9 HC10 HC11 HC12 HC13 HC14 H3' H4' H5' R8 RA RC
  have a0 := ha.cell 0; have a1 := ha.cell 1; have a2 := ha.cell 2
  have e0 := hb.cell 0; have e1 := hb.cell 1; have e2 := hb.cell 2
  have f0 := hc.cell 0; have f1 := hc.cell 1; have f2 := hc.cell 2
  simp only [List.getElem?_cons_zero, List.getElem?_cons_succ] at a0 a1 a2 e0 e1 e2 f0 f1 f2
  clear ha hb hc g1 g2 hbl
  go_wp2_with fail
  obtain ⟨N, hN⟩ : ∃ N : Int, N = 738155 := ⟨_, rfl⟩
  obtain ⟨M, hM⟩ : ∃ M : Int, M = 738159 := ⟨_, rfl⟩
  have hNM : N + 4 = M := by omega
  have hNB : 0 ≤ N ∧ N ≤ 1000000 := by omega
  have hW : IntKind.i64.wrap (N + 4) = M := by rw [IntWalk.i64_in _ (by omega)]; exact hNM
  rw [← hN, ← hM]
  clear hN hM hNM hNB
  go_region_held3 (fun w' => w'.cell? ⟨w3.heap.size, 0, none⟩ = some (.int .i64 2022) ∧ w'.cell? ⟨w3.heap.size, 1, none⟩ = some (.int .i64 1) ∧ w'.cell? ⟨w3.heap.size, 2, none⟩ = some (.int .i64 3) ∧ w'.cell? ⟨w4.heap.size, 0, none⟩ = some (.int .i64 2022) ∧ w'.cell? ⟨w4.heap.size, 1, none⟩ = some (.int .i64 4) ∧ w'.cell? ⟨w4.heap.size, 2, none⟩ = some (.int .i64 18) ∧ w'.cell? ⟨w5.heap.size, 0, none⟩ = some (.int .i64 2022) ∧ w'.cell? ⟨w5.heap.size, 1, none⟩ = some (.int .i64 5) ∧ w'.cell? ⟨w5.heap.size, 2, none⟩ = some (.int .i64 30))
    (first | go_keep | (go_split_ands; (repeat' apply And.intro) <;> first | assumption | exact kp hb1 (by assumption) | exact kp hb2 (by assumption)) | fail)
    (first
      | (go_at_call 42; refine (CD.out _ _ _ _).mono ?_; rintro en wx ⟨rfl, hb1⟩; first | (have H13 := Lib.hid (bd H13.out hb1)) | (have H13 := Lib.hid (bt H13.out hb1)))
      | (go_at_call 15; refine (CK.out _).mono ?_; rintro en wx ⟨rfl, hb2⟩; have H13 := Lib.hid (bt H13.out hb2))
      | fail)
  go_wp2
  go_ret
  exact ⟨by first | rfl | (simp; done), H13.out⟩
end Wk
end Go.Proofs.Ytjicpflgkhdppaa
