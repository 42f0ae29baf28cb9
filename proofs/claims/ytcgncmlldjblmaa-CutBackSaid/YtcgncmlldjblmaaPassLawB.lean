/- Passes: the statement CutBack. (gen_pass3.py) -/
import Derived.Test.YtcgncmlldjblmaaPassPlain2
import Derived.Test.YtcgncmlldjblmaaPassBegun
import Derived.Deep.RegionHeld3
set_option linter.unusedSimpArgs false
set_option linter.unusedVariables false
namespace Go.Proofs.Ytcgncmlldjblmaa
open Go.RowKit
namespace Pa
open Dt Sn
set_option maxRecDepth 100000 in
set_option maxHeartbeats 4000000 in
theorem back_no (p : Ps) (d : Value) (l : List Sp) (n u N E : Int) (hE : E ≠ 0) (w : World) (h : RdE elS w d l)
    (c1 : ∀ (d : Value) (w : World), RdE elS w d l → Calls Try.prog 20 #[aP p d, .int .i64 n, .agg #[.int .i64 u, .int .i64 N]] w (PassNQ (.slice none 0 0) ⟨0, 0, 0, 0, 0⟩ [] 0 E w)) :
    Calls Try.prog 7 #[aP p d, .int .i64 n, .agg #[.int .i64 u, .int .i64 N]] w (BoolQ true w) := by
  have C1 := Lib.hid c1
  clear c1
  have CB := Lib.hid begun_any
  have hz : (E == 0) = false := by simpa using hE
  obtain ⟨id, born, a, b, ser⟩ := p
  have HV0 := Lib.hid h
  obtain ⟨x, cap, rfl, _, _, _⟩ := h
  have V_w := Lib.hid (HV0.out)
  have HB_wa := Lib.hid ((br w).alloc (Nat.le_refl _) (.cells #[.int .i64 id, .int .i64 born, .int .i64 a, .int .i64 b, .int .i64 ser, .slice x l.length cap] 24))
  have V_wa := Lib.hid (Rd.below V_w.out ((br _).alloc (Nat.le_refl _) (.cells #[.int .i64 id, .int .i64 born, .int .i64 a, .int .i64 b, .int .i64 ser, .slice x l.length cap] 24)))
  have P_wa := Lib.hid (Box.new w 24 [.int .i64 id, .int .i64 born, .int .i64 a, .int .i64 b, .int .i64 ser, .slice x l.length cap])
  try clear P_w
  try clear V_w
  have HB_wb := Lib.hid (HB_wa.out.alloc HB_wa.out.size (.cells #[.int .i64 u, .int .i64 N] 26))
  have P_wb := Lib.hid (P_wa.out.alloc (.cells #[.int .i64 u, .int .i64 N] 26))
  have V_wb := Lib.hid (Rd.below V_wa.out ((br _).alloc (Nat.le_refl _) (.cells #[.int .i64 u, .int .i64 N] 26)))
  have hq := Box.new (w.alloc (.cells #[.int .i64 id, .int .i64 born, .int .i64 a, .int .i64 b, .int .i64 ser, .slice x l.length cap] 24)) 26 [.int .i64 u, .int .i64 N]
  rw [asz] at hq
  have T_wb := Lib.hid hq
  clear hq
  try clear P_wa
  try clear T_wa
  try clear V_wa
  try clear HB_wa
  go_enter Try.func7, Try.ntmps7
  go_wp2_with fail
  refine (C1.out _ _ V_wb.out).mono ?_
  rintro en_w2 w2 ⟨v_w2, rfl, hv_w2, _, b_w2⟩
  have HB_w2 := Lib.hid (bt HB_wb.out b_w2)
  have P_w2 := Lib.hid (P_wb.out.next b_w2)
  have T_w2 := Lib.hid (T_wb.out.next b_w2)
  have V_w2 := Lib.hid (Rd.below V_wb.out b_w2)
  try clear P_wb
  try clear T_wb
  try clear V_wb
  try clear HB_wb
  try clear b_w2
  obtain ⟨x_w2, c_w2, rfl⟩ : ∃ x c, v_w2 = .slice x 0 c := by obtain ⟨x, c, h0, _⟩ := hv_w2; exact ⟨x, c, h0⟩
  have HB_w2a := Lib.hid (HB_w2.out.alloc HB_w2.out.size (.cells #[.int .i64 0, .int .i64 0, .int .i64 0, .int .i64 0, .int .i64 0, .slice x_w2 0 c_w2] 24))
  have P_w2a := Lib.hid (P_w2.out.alloc (.cells #[.int .i64 0, .int .i64 0, .int .i64 0, .int .i64 0, .int .i64 0, .slice x_w2 0 c_w2] 24))
  have T_w2a := Lib.hid (T_w2.out.alloc (.cells #[.int .i64 0, .int .i64 0, .int .i64 0, .int .i64 0, .int .i64 0, .slice x_w2 0 c_w2] 24))
  have V_w2a := Lib.hid (Rd.below V_w2.out ((br _).alloc (Nat.le_refl _) (.cells #[.int .i64 0, .int .i64 0, .int .i64 0, .int .i64 0, .int .i64 0, .slice x_w2 0 c_w2] 24)))
  have VQ_w2a := Lib.hid (Rd.below hv_w2 ((br _).alloc (Nat.le_refl _) (.cells #[.int .i64 0, .int .i64 0, .int .i64 0, .int .i64 0, .int .i64 0, .slice x_w2 0 c_w2] 24)))
  have Q_w2a := Lib.hid (Box.new w2 24 [.int .i64 0, .int .i64 0, .int .i64 0, .int .i64 0, .int .i64 0, .slice x_w2 0 c_w2])
  try clear P_w2
  try clear T_w2
  try clear V_w2
  try clear HB_w2
  go_wp2_with fail
  refine (CB.out _).mono ?_
  rintro en_w3 w3 ⟨rfl, b_w3⟩
  have HB_w3 := Lib.hid (bt HB_w2a.out b_w3)
  have P_w3 := Lib.hid (P_w2a.out.next b_w3)
  have T_w3 := Lib.hid (T_w2a.out.next b_w3)
  have Q_w3 := Lib.hid (Q_w2a.out.next b_w3)
  have V_w3 := Lib.hid (Rd.below V_w2a.out b_w3)
  have VQ_w3 := Lib.hid (Rd.below VQ_w2a.out b_w3)
  try clear P_w2a
  try clear T_w2a
  try clear Q_w2a
  try clear V_w2a
  try clear VQ_w2a
  try clear HB_w2a
  try clear b_w3
  clear hv_w2
  go_wp2
  go_ret
  exact ⟨by first | rfl | (simp; done), HB_w3.out⟩
set_option maxRecDepth 100000 in
set_option maxHeartbeats 4000000 in
theorem back_yes (p : Ps) (d : Value) (l M : List Sp) (n u N K D F : Int) (w : World) (h : RdE elS w d l)
    (c1 : ∀ (d : Value) (w : World), RdE elS w d l → Calls Try.prog 20 #[aP p d, .int .i64 n, .agg #[.int .i64 u, .int .i64 N]] w (PassNQ (.slice none 0 0) p M K 0 w))
    (c7 : ∀ (d : Value) (w : World), RdE elS w d l → Calls Try.prog 23 #[aP p d] w (fun e w' => e = .returned (.int .i64 D) ∧ Below w.heap.size w w'))
    (c8 : ∀ (d : Value) (w : World), RdE elS w d M → Calls Try.prog 9 #[aP p d, .int .i64 F] w (PassNQ (.slice none 0 0) p l K 0 w))
    (hF : max n D = F) :
    Calls Try.prog 7 #[aP p d, .int .i64 n, .agg #[.int .i64 u, .int .i64 N]] w (BoolQ true w) := by
  have C1 := Lib.hid c1; have C7 := Lib.hid c7; have C8 := Lib.hid c8
  clear c1 c7 c8
  have CB := Lib.hid begun_any
  have CS := Lib.hid (fun a b w h h' => same_yes p a b l w h h')
  have e1 : (K == K) = true := by simp
  obtain ⟨id, born, a, b, ser⟩ := p
  have HV0 := Lib.hid h
  obtain ⟨x, cap, rfl, _, _, _⟩ := h
  have V_w := Lib.hid (HV0.out)
  have HB_wa := Lib.hid ((br w).alloc (Nat.le_refl _) (.cells #[.int .i64 id, .int .i64 born, .int .i64 a, .int .i64 b, .int .i64 ser, .slice x l.length cap] 24))
  have V_wa := Lib.hid (Rd.below V_w.out ((br _).alloc (Nat.le_refl _) (.cells #[.int .i64 id, .int .i64 born, .int .i64 a, .int .i64 b, .int .i64 ser, .slice x l.length cap] 24)))
  have P_wa := Lib.hid (Box.new w 24 [.int .i64 id, .int .i64 born, .int .i64 a, .int .i64 b, .int .i64 ser, .slice x l.length cap])
  try clear P_w
  try clear V_w
  have HB_wb := Lib.hid (HB_wa.out.alloc HB_wa.out.size (.cells #[.int .i64 u, .int .i64 N] 26))
  have P_wb := Lib.hid (P_wa.out.alloc (.cells #[.int .i64 u, .int .i64 N] 26))
  have V_wb := Lib.hid (Rd.below V_wa.out ((br _).alloc (Nat.le_refl _) (.cells #[.int .i64 u, .int .i64 N] 26)))
  have hq := Box.new (w.alloc (.cells #[.int .i64 id, .int .i64 born, .int .i64 a, .int .i64 b, .int .i64 ser, .slice x l.length cap] 24)) 26 [.int .i64 u, .int .i64 N]
  rw [asz] at hq
  have T_wb := Lib.hid hq
  clear hq
  try clear P_wa
  try clear T_wa
  try clear V_wa
  try clear HB_wa
  go_enter Try.func7, Try.ntmps7
  go_wp2_with fail
  refine (C1.out _ _ V_wb.out).mono ?_
  rintro en_w2 w2 ⟨v_w2, rfl, hv_w2, _, b_w2⟩
  have HB_w2 := Lib.hid (bt HB_wb.out b_w2)
  have P_w2 := Lib.hid (P_wb.out.next b_w2)
  have T_w2 := Lib.hid (T_wb.out.next b_w2)
  have V_w2 := Lib.hid (Rd.below V_wb.out b_w2)
  try clear P_wb
  try clear T_wb
  try clear V_wb
  try clear HB_wb
  try clear b_w2
  clear C1
  obtain ⟨x_w2, c_w2, rfl⟩ : ∃ x c, v_w2 = .slice x M.length c := by obtain ⟨x, c, h0, _⟩ := hv_w2; exact ⟨x, c, h0⟩
  have HB_w2a := Lib.hid (HB_w2.out.alloc HB_w2.out.size (.cells #[.int .i64 id, .int .i64 born, .int .i64 a, .int .i64 b, .int .i64 ser, .slice x_w2 M.length c_w2] 24))
  have P_w2a := Lib.hid (P_w2.out.alloc (.cells #[.int .i64 id, .int .i64 born, .int .i64 a, .int .i64 b, .int .i64 ser, .slice x_w2 M.length c_w2] 24))
  have T_w2a := Lib.hid (T_w2.out.alloc (.cells #[.int .i64 id, .int .i64 born, .int .i64 a, .int .i64 b, .int .i64 ser, .slice x_w2 M.length c_w2] 24))
  have V_w2a := Lib.hid (Rd.below V_w2.out ((br _).alloc (Nat.le_refl _) (.cells #[.int .i64 id, .int .i64 born, .int .i64 a, .int .i64 b, .int .i64 ser, .slice x_w2 M.length c_w2] 24)))
  have VQ_w2a := Lib.hid (Rd.below hv_w2 ((br _).alloc (Nat.le_refl _) (.cells #[.int .i64 id, .int .i64 born, .int .i64 a, .int .i64 b, .int .i64 ser, .slice x_w2 M.length c_w2] 24)))
  have Q_w2a := Lib.hid (Box.new w2 24 [.int .i64 id, .int .i64 born, .int .i64 a, .int .i64 b, .int .i64 ser, .slice x_w2 M.length c_w2])
  try clear P_w2
  try clear T_w2
  try clear V_w2
  try clear HB_w2
  have h_P := P_w2a.out
  have l_Pw2a := h_P.lt
  have Pw2a_0 := h_P.cell 0; have Pw2a_1 := h_P.cell 1; have Pw2a_2 := h_P.cell 2; have Pw2a_3 := h_P.cell 3; have Pw2a_4 := h_P.cell 4; have Pw2a_5 := h_P.cell 5
  simp only [List.getElem?_cons_zero, List.getElem?_cons_succ] at Pw2a_0 Pw2a_1 Pw2a_2 Pw2a_3 Pw2a_4 Pw2a_5
  clear h_P
  go_wp2_with fail
  refine (CB.out _).mono ?_
  rintro en_w3 w3 ⟨rfl, b_w3⟩
  have HB_w3 := Lib.hid (bt HB_w2a.out b_w3)
  have P_w3 := Lib.hid (P_w2a.out.next b_w3)
  have T_w3 := Lib.hid (T_w2a.out.next b_w3)
  have Q_w3 := Lib.hid (Q_w2a.out.next b_w3)
  have V_w3 := Lib.hid (Rd.below V_w2a.out b_w3)
  have VQ_w3 := Lib.hid (Rd.below VQ_w2a.out b_w3)
  try clear l_Pw2a
  try clear Pw2a_0
  try clear Pw2a_1
  try clear Pw2a_2
  try clear Pw2a_3
  try clear Pw2a_4
  try clear Pw2a_5
  try clear P_w2a
  try clear T_w2a
  try clear Q_w2a
  try clear V_w2a
  try clear VQ_w2a
  try clear HB_w2a
  try clear b_w3
  clear hv_w2 CB
  have h_P := P_w3.out
  have l_Pw3 := h_P.lt
  have Pw3_0 := h_P.cell 0; have Pw3_1 := h_P.cell 1; have Pw3_2 := h_P.cell 2; have Pw3_3 := h_P.cell 3; have Pw3_4 := h_P.cell 4; have Pw3_5 := h_P.cell 5
  simp only [List.getElem?_cons_zero, List.getElem?_cons_succ] at Pw3_0 Pw3_1 Pw3_2 Pw3_3 Pw3_4 Pw3_5
  clear h_P
  have h_Q := Q_w3.out
  have l_Qw3 := h_Q.lt
  have Qw3_0 := h_Q.cell 0; have Qw3_1 := h_Q.cell 1; have Qw3_2 := h_Q.cell 2; have Qw3_3 := h_Q.cell 3; have Qw3_4 := h_Q.cell 4; have Qw3_5 := h_Q.cell 5
  simp only [List.getElem?_cons_zero, List.getElem?_cons_succ] at Qw3_0 Qw3_1 Qw3_2 Qw3_3 Qw3_4 Qw3_5
  clear h_Q
  have VQd := Lib.hid (rdE_dr (E := elS) VQ_w3.out); have Vd := Lib.hid (rdE_dr (E := elS) V_w3.out)
  have Bz := Lib.hid ((br w3).alloc (Nat.le_refl _) (.cells #[.int .i64 0, .int .i64 0, .int .i64 0, .int .i64 0, .int .i64 0, .slice none 0 0] 24))
  have Yz := Lib.hid (Box.new w3 24 [.int .i64 0, .int .i64 0, .int .i64 0, .int .i64 0, .int .i64 0, .slice none 0 0])
  go_wp2_with fail
  go_region_held3 (fun w' => w'.cell? ⟨w2.heap.size, 0, none⟩ = some (.int .i64 id) ∧ w'.cell? ⟨w2.heap.size, 1, none⟩ = some (.int .i64 born) ∧ w'.cell? ⟨w2.heap.size, 2, none⟩ = some (.int .i64 a) ∧ w'.cell? ⟨w2.heap.size, 3, none⟩ = some (.int .i64 b) ∧ w'.cell? ⟨w2.heap.size, 4, none⟩ = some (.int .i64 ser) ∧ w'.cell? ⟨w2.heap.size, 5, none⟩ = some (.slice x_w2 M.length c_w2) ∧ w'.cell? ⟨w.heap.size, 0, none⟩ = some (.int .i64 id) ∧ w'.cell? ⟨w.heap.size, 1, none⟩ = some (.int .i64 born) ∧ w'.cell? ⟨w.heap.size, 2, none⟩ = some (.int .i64 a) ∧ w'.cell? ⟨w.heap.size, 3, none⟩ = some (.int .i64 b) ∧ w'.cell? ⟨w.heap.size, 4, none⟩ = some (.int .i64 ser) ∧ w'.cell? ⟨w.heap.size, 5, none⟩ = some (.slice x l.length cap))
    (first | (go_split_ands; (repeat' apply And.intro) <;> first | (with_reducible assumption) | ((with_reducible refine kp (a := w3) ?_ (by with_reducible assumption)); first | (with_reducible exact Bz.out) | (with_reducible exact Bz.out.drew) | (with_reducible exact (br _).drew) | (with_reducible exact BA.out) | (with_reducible exact BB.out) | (with_reducible exact (BA.out.alloc BA.out.size _)) | (with_reducible exact (BB.out.alloc BB.out.size _)) | (with_reducible exact below6 BB.out (Nat.le_refl _) _ _ _ _ _ _) | (with_reducible exact below6 BB.out BA.out.size _ _ _ _ _ _))) | go_keep | fail)
    (first
      | (go_at_call 23; (with_reducible refine (C7.out _ _ Vd.out).mono ?_); rintro enA wA ⟨rfl, hbA⟩; have BA := Lib.hid (bd (br w3) hbA))
      | (go_at_call 23; (with_reducible refine (C7.out _ _ (rdE_dr (E := elS) (Rd.below V_w3.out Bz.out))).mono ?_); rintro enA wA ⟨rfl, hbA⟩; have BA := Lib.hid (bt Bz.out (bd (br _) hbA)); have YA := Lib.hid (Yz.out.next (bd (br _) hbA)))
      | (go_at_call 9; have YA' := YA.out; (with_reducible refine (C8.out _ _ (Rd.below VQ_w3.out BA.out)).mono ?_); rintro enB wB ⟨vB, rfl, hvB, hoB, hbB⟩; obtain ⟨xB, cB, rfl⟩ : ∃ x c, vB = .slice x l.length c := (by obtain ⟨x, c, h0, _⟩ := hvB; exact ⟨x, c, h0⟩); have OB := Lib.hid (hoB w3.heap.size YA'.lt (off_nil _)); have YB' := YA'.next hbB; have q0 : wB.cell? ⟨w3.heap.size, 0, none⟩ = some (.int .i64 0) := YB'.cell 0; have r0 : wB.frozen? ⟨w3.heap.size, 0, none⟩ = false := YB'.froz 0; have q1 : wB.cell? ⟨w3.heap.size, 1, none⟩ = some (.int .i64 0) := YB'.cell 1; have r1 : wB.frozen? ⟨w3.heap.size, 1, none⟩ = false := YB'.froz 1; have q2 : wB.cell? ⟨w3.heap.size, 2, none⟩ = some (.int .i64 0) := YB'.cell 2; have r2 : wB.frozen? ⟨w3.heap.size, 2, none⟩ = false := YB'.froz 2; have q3 : wB.cell? ⟨w3.heap.size, 3, none⟩ = some (.int .i64 0) := YB'.cell 3; have r3 : wB.frozen? ⟨w3.heap.size, 3, none⟩ = false := YB'.froz 3; have q4 : wB.cell? ⟨w3.heap.size, 4, none⟩ = some (.int .i64 0) := YB'.cell 4; have r4 : wB.frozen? ⟨w3.heap.size, 4, none⟩ = false := YB'.froz 4; have q5 : wB.cell? ⟨w3.heap.size, 5, none⟩ = some (.slice none 0 0) := YB'.cell 5; have r5 : wB.frozen? ⟨w3.heap.size, 5, none⟩ = false := YB'.froz 5; have YB := Lib.hid YB'; have BB := Lib.hid (bt BA.out hbB); have HVB := Lib.hid hvB)
      | (go_at_call 9; (with_reducible refine (C8.out _ _ (Rd.below VQ_w3.out (bt BA.out ((br wA).alloc (Nat.le_refl _) (.cells #[.int .i64 0, .int .i64 0, .int .i64 0, .int .i64 0, .int .i64 0, .slice none 0 0] 24))))).mono ?_); rintro enB wB ⟨vB, rfl, hvB, hoB, hbB⟩; obtain ⟨xB, cB, rfl⟩ : ∃ x c, vB = .slice x l.length c := (by obtain ⟨x, c, h0, _⟩ := hvB; exact ⟨x, c, h0⟩); have OB := Lib.hid (hoB wA.heap.size (by simp) (off_nil _)); have YB' := (Box.new wA 24 [.int .i64 0, .int .i64 0, .int .i64 0, .int .i64 0, .int .i64 0, .slice none 0 0]).next hbB; have q0 : wB.cell? ⟨wA.heap.size, 0, none⟩ = some (.int .i64 0) := YB'.cell 0; have r0 : wB.frozen? ⟨wA.heap.size, 0, none⟩ = false := YB'.froz 0; have q1 : wB.cell? ⟨wA.heap.size, 1, none⟩ = some (.int .i64 0) := YB'.cell 1; have r1 : wB.frozen? ⟨wA.heap.size, 1, none⟩ = false := YB'.froz 1; have q2 : wB.cell? ⟨wA.heap.size, 2, none⟩ = some (.int .i64 0) := YB'.cell 2; have r2 : wB.frozen? ⟨wA.heap.size, 2, none⟩ = false := YB'.froz 2; have q3 : wB.cell? ⟨wA.heap.size, 3, none⟩ = some (.int .i64 0) := YB'.cell 3; have r3 : wB.frozen? ⟨wA.heap.size, 3, none⟩ = false := YB'.froz 3; have q4 : wB.cell? ⟨wA.heap.size, 4, none⟩ = some (.int .i64 0) := YB'.cell 4; have r4 : wB.frozen? ⟨wA.heap.size, 4, none⟩ = false := YB'.froz 4; have q5 : wB.cell? ⟨wA.heap.size, 5, none⟩ = some (.slice none 0 0) := YB'.cell 5; have r5 : wB.frozen? ⟨wA.heap.size, 5, none⟩ = false := YB'.froz 5; have YB := Lib.hid YB'; have BB := Lib.hid (bt (BA.out.alloc BA.out.size _) hbB); have HVB := Lib.hid hvB)
      | (go_at_call 9; (with_reducible refine (C8.out _ _ (Rd.below VQ_w3.out BA.out)).mono ?_); rintro enB wB ⟨vB, rfl, hvB, hoB, hbB⟩; obtain ⟨xB, cB, rfl⟩ : ∃ x c, vB = .slice x l.length c := (by obtain ⟨x, c, h0, _⟩ := hvB; exact ⟨x, c, h0⟩); have BB := Lib.hid (bt BA.out hbB); have HVB := Lib.hid hvB)
      | fail)
  all_goals
    first
      | (have RB := Lib.hid (Pb.put YB.out ⟨id, born, a, b, ser⟩ (.slice xB l.length cB)); have BX := Lib.hid (below6 BB.out (b := w3.heap.size) (Nat.le_refl _) (.int .i64 id) (.int .i64 born) (.int .i64 a) (.int .i64 b) (.int .i64 ser) ((.slice xB l.length cB))); have VR := Lib.hid (rd_put6 (b := w3.heap.size) HVB.out OB.out (.int .i64 id) (.int .i64 born) (.int .i64 a) (.int .i64 b) (.int .i64 ser) ((.slice xB l.length cB))); generalize (((((wB.setCell ⟨w3.heap.size, 0, none⟩ (.int .i64 id)).setCell ⟨w3.heap.size, 1, none⟩ (.int .i64 born)).setCell ⟨w3.heap.size, 2, none⟩ (.int .i64 a)).setCell ⟨w3.heap.size, 3, none⟩ (.int .i64 b)).setCell ⟨w3.heap.size, 4, none⟩ (.int .i64 ser)).setCell ⟨w3.heap.size, 5, none⟩ ((.slice xB l.length cB)) = wx at *)
      | (have RB := Lib.hid (Pb.put YB.out ⟨id, born, a, b, ser⟩ (.slice xB l.length cB)); have BX := Lib.hid (below6 BB.out (b := wA.heap.size) BA.out.size (.int .i64 id) (.int .i64 born) (.int .i64 a) (.int .i64 b) (.int .i64 ser) ((.slice xB l.length cB))); have VR := Lib.hid (rd_put6 (b := wA.heap.size) HVB.out OB.out (.int .i64 id) (.int .i64 born) (.int .i64 a) (.int .i64 b) (.int .i64 ser) ((.slice xB l.length cB))); generalize (((((wB.setCell ⟨wA.heap.size, 0, none⟩ (.int .i64 id)).setCell ⟨wA.heap.size, 1, none⟩ (.int .i64 born)).setCell ⟨wA.heap.size, 2, none⟩ (.int .i64 a)).setCell ⟨wA.heap.size, 3, none⟩ (.int .i64 b)).setCell ⟨wA.heap.size, 4, none⟩ (.int .i64 ser)).setCell ⟨wA.heap.size, 5, none⟩ ((.slice xB l.length cB)) = wx at *)
      | (have RB := Lib.hid (Box.new wB 24 [.int .i64 id, .int .i64 born, .int .i64 a, .int .i64 b, .int .i64 ser, .slice xB l.length cB]); have BX := Lib.hid (BB.out.alloc BB.out.size (.cells #[.int .i64 id, .int .i64 born, .int .i64 a, .int .i64 b, .int .i64 ser, .slice xB l.length cB] 24)); have VR := Lib.hid (Rd.below HVB.out ((br _).alloc (Nat.le_refl _) (.cells #[.int .i64 id, .int .i64 born, .int .i64 a, .int .i64 b, .int .i64 ser, .slice xB l.length cB] 24))); generalize wB.alloc (.cells #[.int .i64 id, .int .i64 born, .int .i64 a, .int .i64 b, .int .i64 ser, .slice xB l.length cB] 24) = wx at *)
  all_goals
    have HBX := Lib.hid (bt HB_w3.out BX.out)
    have hp := P_w3.out.next BX.out
    have hr := RB.out
    have VX := Lib.hid (Rd.below V_w3.out BX.out)
    have y0 := hp.cell 0; have y1 := hp.cell 1; have y2 := hp.cell 2; have y3 := hp.cell 3; have y4 := hp.cell 4; have y5 := hp.cell 5
    simp only [List.getElem?_cons_zero, List.getElem?_cons_succ] at y0 y1 y2 y3 y4 y5
    have z0 := hr.cell 0; have z1 := hr.cell 1; have z2 := hr.cell 2; have z3 := hr.cell 3; have z4 := hr.cell 4; have z5 := hr.cell 5
    simp only [List.getElem?_cons_zero, List.getElem?_cons_succ] at z0 z1 z2 z3 z4 z5
    clear hp hr
    go_wp2_with fail
    refine (CS.out _ _ _ VR.out VX.out).mono ?_
    rintro en5 w5 ⟨rfl, b5⟩
    have HB5 := Lib.hid (bt HBX.out b5)
    clear b5
    go_wp2
    go_ret
    exact ⟨by first | rfl | (simp; done), HB5.out⟩
theorem back_walk (p : Ps) (d : Value) (l : List Sp) (n u N : Int) (w : World) (h : RdE elS w d l) : Calls Try.prog 7 #[aP p d, .int .i64 n, aT u N] w (BoolQ true w) := by
  by_cases c : (renG p l n u N).2.2 = 0
  · obtain ⟨T, e1, g1, hD, b1, b2, b3, he, hb, g3⟩ := ren_yes c
    have e2 := ren_cut g1 hD b1 b2 b3 he hb g3
    exact back_yes p d l (bothR 0 l [(frm l n, T)]) n u N _ (endD l) (frm l n) w h
      (fun d w h => by have := renew_any p d l n u N w h; rw [ren_eq, e1] at this; exact this)
      (fun d w h => endR_any p d l w h)
      (fun d w h => by have := cut_any p d _ (frm l n) w h; rw [cut_eq, e2] at this; exact this) rfl
  · exact back_no p d l n u N _ c w h (fun d w h => by have := renew_any p d l n u N w h; rw [ren_eq, ren_no c] at this; exact this)
end Pa
end Go.Proofs.Ytcgncmlldjblmaa
