/- Passes: the statement CutHas. (gen_pass3.py) -/
import Derived.Test.YtcgncmlldjblmaaPassPlain2
import Derived.Test.YtcgncmlldjblmaaPassBegun
import Derived.Deep.RegionHeld3
import Derived.Deep.RegionHeld
set_option linter.unusedSimpArgs false
set_option linter.unusedVariables false
namespace Go.Proofs.Ytcgncmlldjblmaa
open Go.RowKit
namespace Pa
open Dt Sn
set_option maxRecDepth 100000 in
set_option maxHeartbeats 4000000 in
theorem cuthas_no (p : Ps) (d : Value) (l : List Sp) (n k z E : Int) (hE : E ≠ 0) (w : World) (h : RdE elS w d l)
    (c1 : ∀ (d : Value) (w : World), RdE elS w d l → Calls Try.prog 9 #[aP p d, .int .i64 n] w (PassNQ (.slice none 0 0) ⟨0, 0, 0, 0, 0⟩ [] 0 E w)) :
    Calls Try.prog 6 #[aP p d, .int .i64 n, .int .i64 k, .int .i64 z] w (BoolQ true w) := by
  have C1 := Lib.hid c1
  clear c1
  have CB := Lib.hid begun_any
  have CS := Lib.hid (fun a b w h h' => same_yes ⟨0, 0, 0, 0, 0⟩ a b [] w h h')
  have hz : (E == 0) = false := by simpa using hE
  obtain ⟨id, born, a, b, ser⟩ := p
  have HV0 := Lib.hid h
  obtain ⟨x, cap, rfl, _, _, _⟩ := h
  have V_w := Lib.hid (HV0.out)
  have HB_wa := Lib.hid ((br w).alloc (Nat.le_refl _) (.cells #[.int .i64 id, .int .i64 born, .int .i64 a, .int .i64 b, .int .i64 ser, .slice x l.length cap] 24))
  have V_wa := Lib.hid (Rd.below V_w.out ((br _).alloc (Nat.le_refl _) (.cells #[.int .i64 id, .int .i64 born, .int .i64 a, .int .i64 b, .int .i64 ser, .slice x l.length cap] 24)))
  have P_wa := Lib.hid (Box.new w 24 [.int .i64 id, .int .i64 born, .int .i64 a, .int .i64 b, .int .i64 ser, .slice x l.length cap])
  try clear P_w
  try clear V_w
  go_enter Try.func6, Try.ntmps6
  go_wp2_with fail
  refine (C1.out _ _ V_wa.out).mono ?_
  rintro en_w2 w2 ⟨v_w2, rfl, hv_w2, _, b_w2⟩
  have HB_w2 := Lib.hid (bt HB_wa.out b_w2)
  have P_w2 := Lib.hid (P_wa.out.next b_w2)
  have V_w2 := Lib.hid (Rd.below V_wa.out b_w2)
  try clear P_wa
  try clear V_wa
  try clear HB_wa
  try clear b_w2
  obtain ⟨x_w2, c_w2, rfl⟩ : ∃ x c, v_w2 = .slice x 0 c := by obtain ⟨x, c, h0, _⟩ := hv_w2; exact ⟨x, c, h0⟩
  have HB_w2a := Lib.hid (HB_w2.out.alloc HB_w2.out.size (.cells #[.int .i64 0, .int .i64 0, .int .i64 0, .int .i64 0, .int .i64 0, .slice x_w2 0 c_w2] 24))
  have P_w2a := Lib.hid (P_w2.out.alloc (.cells #[.int .i64 0, .int .i64 0, .int .i64 0, .int .i64 0, .int .i64 0, .slice x_w2 0 c_w2] 24))
  have V_w2a := Lib.hid (Rd.below V_w2.out ((br _).alloc (Nat.le_refl _) (.cells #[.int .i64 0, .int .i64 0, .int .i64 0, .int .i64 0, .int .i64 0, .slice x_w2 0 c_w2] 24)))
  have VQ_w2a := Lib.hid (Rd.below hv_w2 ((br _).alloc (Nat.le_refl _) (.cells #[.int .i64 0, .int .i64 0, .int .i64 0, .int .i64 0, .int .i64 0, .slice x_w2 0 c_w2] 24)))
  have Q_w2a := Lib.hid (Box.new w2 24 [.int .i64 0, .int .i64 0, .int .i64 0, .int .i64 0, .int .i64 0, .slice x_w2 0 c_w2])
  try clear P_w2
  try clear V_w2
  try clear HB_w2
  go_wp2_with fail
  refine (CB.out _).mono ?_
  rintro en_w3 w3 ⟨rfl, b_w3⟩
  have HB_w3 := Lib.hid (bt HB_w2a.out b_w3)
  have P_w3 := Lib.hid (P_w2a.out.next b_w3)
  have Q_w3 := Lib.hid (Q_w2a.out.next b_w3)
  have V_w3 := Lib.hid (Rd.below V_w2a.out b_w3)
  have VQ_w3 := Lib.hid (Rd.below VQ_w2a.out b_w3)
  try clear P_w2a
  try clear Q_w2a
  try clear V_w2a
  try clear VQ_w2a
  try clear HB_w2a
  try clear b_w3
  clear hv_w2
  have h_Q := Q_w3.out
  have l_Qw3 := h_Q.lt
  have Qw3_0 := h_Q.cell 0; have Qw3_1 := h_Q.cell 1; have Qw3_2 := h_Q.cell 2; have Qw3_3 := h_Q.cell 3; have Qw3_4 := h_Q.cell 4; have Qw3_5 := h_Q.cell 5
  simp only [List.getElem?_cons_zero, List.getElem?_cons_succ] at Qw3_0 Qw3_1 Qw3_2 Qw3_3 Qw3_4 Qw3_5
  clear h_Q
  go_wp2_with fail
  refine (CS.out _ _ _ VQ_w3.out (rd_nil _)).mono ?_
  rintro en_w4 w4 ⟨rfl, b_w4⟩
  have HB_w4 := Lib.hid (bt HB_w3.out b_w4)
  have P_w4 := Lib.hid (P_w3.out.next b_w4)
  have Q_w4 := Lib.hid (Q_w3.out.next b_w4)
  have V_w4 := Lib.hid (Rd.below V_w3.out b_w4)
  have VQ_w4 := Lib.hid (Rd.below VQ_w3.out b_w4)
  try clear l_Qw3
  try clear Qw3_0
  try clear Qw3_1
  try clear Qw3_2
  try clear Qw3_3
  try clear Qw3_4
  try clear Qw3_5
  try clear P_w3
  try clear Q_w3
  try clear V_w3
  try clear VQ_w3
  try clear HB_w3
  try clear b_w4
  go_wp2
  go_ret
  exact ⟨by first | rfl | (simp; done), HB_w4.out⟩
set_option maxRecDepth 100000 in
set_option maxHeartbeats 4000000 in
theorem cuthas_yes (p : Ps) (d : Value) (l M : List Sp) (n k z K A B : Int) (I Wb : Bool) (w : World) (h : RdE elS w d l)
    (c1 : ∀ (d : Value) (w : World), RdE elS w d l → Calls Try.prog 9 #[aP p d, .int .i64 n] w (PassNQ (.slice none 0 0) p M K 0 w))
    (c2 : ∀ (d : Value) (w : World), RdE elS w d l → Calls Try.prog 11 #[aP p d, .int .i64 k, .int .i64 z] w (fun e w' => e = .returned (.tuple #[.bool Wb, .int .i64 0]) ∧ Below w.heap.size w w'))
    (c3 : ∀ (d : Value) (w : World), RdE elS w d M → Calls Try.prog 11 #[aP p d, .int .i64 k, .int .i64 z] w (fun e w' => e = .returned (.tuple #[.bool I, .int .i64 0]) ∧ Below w.heap.size w w'))
    (c4 : ∀ (d : Value) (w : World), RdE elS w d M → Calls Try.prog 9 #[aP p d, .int .i64 n] w (PassNQ (.slice none 0 0) p M 0 0 w))
    (c5 : ∀ (d : Value) (w : World), RdE elS w d l → Calls Try.prog 22 #[d] w (fun e w' => e = .returned (.int .i64 A) ∧ Below w.heap.size w w'))
    (c6 : ∀ (d : Value) (w : World), RdE elS w d M → Calls Try.prog 22 #[d] w (fun e w' => e = .returned (.int .i64 B) ∧ Below w.heap.size w w'))
    (hK : IntKind.i64.wrap (A - B) = K)
    (hc : (Wb = false ∧ I = false) ∨ (Wb = true ∧ k < n ∧ I = true) ∨ (Wb = true ∧ n ≤ k ∧ I = false)) :
    Calls Try.prog 6 #[aP p d, .int .i64 n, .int .i64 k, .int .i64 z] w (BoolQ true w) := by
  have C1 := Lib.hid c1; have C2 := Lib.hid c2; have C3 := Lib.hid c3; have C4 := Lib.hid c4; have C5 := Lib.hid c5; have C6 := Lib.hid c6
  clear c1 c2 c3 c4 c5 c6
  have CB := Lib.hid begun_any
  have CS := Lib.hid (fun a b w h h' => same_yes p a b M w h h')
  have e1 : (K == K) = true := by simp
  obtain ⟨id, born, a, b, ser⟩ := p
  have HV0 := Lib.hid h
  obtain ⟨x, cap, rfl, _, _, _⟩ := h
  have V_w := Lib.hid (HV0.out)
  have HB_wa := Lib.hid ((br w).alloc (Nat.le_refl _) (.cells #[.int .i64 id, .int .i64 born, .int .i64 a, .int .i64 b, .int .i64 ser, .slice x l.length cap] 24))
  have V_wa := Lib.hid (Rd.below V_w.out ((br _).alloc (Nat.le_refl _) (.cells #[.int .i64 id, .int .i64 born, .int .i64 a, .int .i64 b, .int .i64 ser, .slice x l.length cap] 24)))
  have P_wa := Lib.hid (Box.new w 24 [.int .i64 id, .int .i64 born, .int .i64 a, .int .i64 b, .int .i64 ser, .slice x l.length cap])
  try clear P_w
  try clear V_w
  go_enter Try.func6, Try.ntmps6
  go_wp2_with fail
  refine (C1.out _ _ V_wa.out).mono ?_
  rintro en_w2 w2 ⟨v_w2, rfl, hv_w2, _, b_w2⟩
  have HB_w2 := Lib.hid (bt HB_wa.out b_w2)
  have P_w2 := Lib.hid (P_wa.out.next b_w2)
  have V_w2 := Lib.hid (Rd.below V_wa.out b_w2)
  try clear P_wa
  try clear V_wa
  try clear HB_wa
  try clear b_w2
  clear C1
  obtain ⟨x_w2, c_w2, rfl⟩ : ∃ x c, v_w2 = .slice x M.length c := by obtain ⟨x, c, h0, _⟩ := hv_w2; exact ⟨x, c, h0⟩
  have HB_w2a := Lib.hid (HB_w2.out.alloc HB_w2.out.size (.cells #[.int .i64 id, .int .i64 born, .int .i64 a, .int .i64 b, .int .i64 ser, .slice x_w2 M.length c_w2] 24))
  have P_w2a := Lib.hid (P_w2.out.alloc (.cells #[.int .i64 id, .int .i64 born, .int .i64 a, .int .i64 b, .int .i64 ser, .slice x_w2 M.length c_w2] 24))
  have V_w2a := Lib.hid (Rd.below V_w2.out ((br _).alloc (Nat.le_refl _) (.cells #[.int .i64 id, .int .i64 born, .int .i64 a, .int .i64 b, .int .i64 ser, .slice x_w2 M.length c_w2] 24)))
  have VQ_w2a := Lib.hid (Rd.below hv_w2 ((br _).alloc (Nat.le_refl _) (.cells #[.int .i64 id, .int .i64 born, .int .i64 a, .int .i64 b, .int .i64 ser, .slice x_w2 M.length c_w2] 24)))
  have Q_w2a := Lib.hid (Box.new w2 24 [.int .i64 id, .int .i64 born, .int .i64 a, .int .i64 b, .int .i64 ser, .slice x_w2 M.length c_w2])
  try clear P_w2
  try clear V_w2
  try clear HB_w2
  have h_P := P_w2a.out
  have l_Pw2a := h_P.lt
  have Pw2a_0 := h_P.cell 0; have Pw2a_1 := h_P.cell 1; have Pw2a_2 := h_P.cell 2; have Pw2a_3 := h_P.cell 3; have Pw2a_4 := h_P.cell 4; have Pw2a_5 := h_P.cell 5
  simp only [List.getElem?_cons_zero, List.getElem?_cons_succ] at Pw2a_0 Pw2a_1 Pw2a_2 Pw2a_3 Pw2a_4 Pw2a_5
  clear h_P
  go_wp2_with fail
  refine (CB.out _).mono ?_
  rintro en_w3 w3 ⟨rfl, b_w3⟩
  have HB_w3 := Lib.hid (bt HB_w2a.out b_w3)
  have P_w3 := Lib.hid (P_w2a.out.next b_w3)
  have Q_w3 := Lib.hid (Q_w2a.out.next b_w3)
  have V_w3 := Lib.hid (Rd.below V_w2a.out b_w3)
  have VQ_w3 := Lib.hid (Rd.below VQ_w2a.out b_w3)
  try clear l_Pw2a
  try clear Pw2a_0
  try clear Pw2a_1
  try clear Pw2a_2
  try clear Pw2a_3
  try clear Pw2a_4
  try clear Pw2a_5
  try clear P_w2a
  try clear Q_w2a
  try clear V_w2a
  try clear VQ_w2a
  try clear HB_w2a
  try clear b_w3
  clear hv_w2 CB
  have h_P := P_w3.out
  have l_Pw3 := h_P.lt
  have Pw3_0 := h_P.cell 0; have Pw3_1 := h_P.cell 1; have Pw3_2 := h_P.cell 2; have Pw3_3 := h_P.cell 3; have Pw3_4 := h_P.cell 4; have Pw3_5 := h_P.cell 5
  simp only [List.getElem?_cons_zero, List.getElem?_cons_succ] at Pw3_0 Pw3_1 Pw3_2 Pw3_3 Pw3_4 Pw3_5
  clear h_P
  have h_Q := Q_w3.out
  have l_Qw3 := h_Q.lt
  have Qw3_0 := h_Q.cell 0; have Qw3_1 := h_Q.cell 1; have Qw3_2 := h_Q.cell 2; have Qw3_3 := h_Q.cell 3; have Qw3_4 := h_Q.cell 4; have Qw3_5 := h_Q.cell 5
  simp only [List.getElem?_cons_zero, List.getElem?_cons_succ] at Qw3_0 Qw3_1 Qw3_2 Qw3_3 Qw3_4 Qw3_5
  clear h_Q
  go_wp2_with fail
  refine (C2.out _ _ V_w3.out).mono ?_
  rintro en_w4 w4 ⟨rfl, b_w4⟩
  have HB_w4 := Lib.hid (bt HB_w3.out b_w4)
  have P_w4 := Lib.hid (P_w3.out.next b_w4)
  have Q_w4 := Lib.hid (Q_w3.out.next b_w4)
  have V_w4 := Lib.hid (Rd.below V_w3.out b_w4)
  have VQ_w4 := Lib.hid (Rd.below VQ_w3.out b_w4)
  try clear l_Pw3
  try clear Pw3_0
  try clear Pw3_1
  try clear Pw3_2
  try clear Pw3_3
  try clear Pw3_4
  try clear Pw3_5
  try clear l_Qw3
  try clear Qw3_0
  try clear Qw3_1
  try clear Qw3_2
  try clear Qw3_3
  try clear Qw3_4
  try clear Qw3_5
  try clear P_w3
  try clear Q_w3
  try clear V_w3
  try clear VQ_w3
  try clear HB_w3
  try clear b_w4
  clear C2
  have h_P := P_w4.out
  have l_Pw4 := h_P.lt
  have Pw4_0 := h_P.cell 0; have Pw4_1 := h_P.cell 1; have Pw4_2 := h_P.cell 2; have Pw4_3 := h_P.cell 3; have Pw4_4 := h_P.cell 4; have Pw4_5 := h_P.cell 5
  simp only [List.getElem?_cons_zero, List.getElem?_cons_succ] at Pw4_0 Pw4_1 Pw4_2 Pw4_3 Pw4_4 Pw4_5
  clear h_P
  have h_Q := Q_w4.out
  have l_Qw4 := h_Q.lt
  have Qw4_0 := h_Q.cell 0; have Qw4_1 := h_Q.cell 1; have Qw4_2 := h_Q.cell 2; have Qw4_3 := h_Q.cell 3; have Qw4_4 := h_Q.cell 4; have Qw4_5 := h_Q.cell 5
  simp only [List.getElem?_cons_zero, List.getElem?_cons_succ] at Qw4_0 Qw4_1 Qw4_2 Qw4_3 Qw4_4 Qw4_5
  clear h_Q
  go_wp2_with fail
  refine (C3.out _ _ VQ_w4.out).mono ?_
  rintro en_w5 w5 ⟨rfl, b_w5⟩
  have HB_w5 := Lib.hid (bt HB_w4.out b_w5)
  have P_w5 := Lib.hid (P_w4.out.next b_w5)
  have Q_w5 := Lib.hid (Q_w4.out.next b_w5)
  have V_w5 := Lib.hid (Rd.below V_w4.out b_w5)
  have VQ_w5 := Lib.hid (Rd.below VQ_w4.out b_w5)
  try clear l_Pw4
  try clear Pw4_0
  try clear Pw4_1
  try clear Pw4_2
  try clear Pw4_3
  try clear Pw4_4
  try clear Pw4_5
  try clear l_Qw4
  try clear Qw4_0
  try clear Qw4_1
  try clear Qw4_2
  try clear Qw4_3
  try clear Qw4_4
  try clear Qw4_5
  try clear P_w4
  try clear Q_w4
  try clear V_w4
  try clear VQ_w4
  try clear HB_w4
  try clear b_w5
  clear C3
  have h_P := P_w5.out
  have l_Pw5 := h_P.lt
  have Pw5_0 := h_P.cell 0; have Pw5_1 := h_P.cell 1; have Pw5_2 := h_P.cell 2; have Pw5_3 := h_P.cell 3; have Pw5_4 := h_P.cell 4; have Pw5_5 := h_P.cell 5
  simp only [List.getElem?_cons_zero, List.getElem?_cons_succ] at Pw5_0 Pw5_1 Pw5_2 Pw5_3 Pw5_4 Pw5_5
  clear h_P
  have h_Q := Q_w5.out
  have l_Qw5 := h_Q.lt
  have Qw5_0 := h_Q.cell 0; have Qw5_1 := h_Q.cell 1; have Qw5_2 := h_Q.cell 2; have Qw5_3 := h_Q.cell 3; have Qw5_4 := h_Q.cell 4; have Qw5_5 := h_Q.cell 5
  simp only [List.getElem?_cons_zero, List.getElem?_cons_succ] at Qw5_0 Qw5_1 Qw5_2 Qw5_3 Qw5_4 Qw5_5
  clear h_Q
  go_wp2_with fail
  refine (C4.out _ _ VQ_w5.out).mono ?_
  rintro en_w6 w6 ⟨v_w6, rfl, hv_w6, _, b_w6⟩
  have HB_w6 := Lib.hid (bt HB_w5.out b_w6)
  have P_w6 := Lib.hid (P_w5.out.next b_w6)
  have Q_w6 := Lib.hid (Q_w5.out.next b_w6)
  have V_w6 := Lib.hid (Rd.below V_w5.out b_w6)
  have VQ_w6 := Lib.hid (Rd.below VQ_w5.out b_w6)
  try clear l_Pw5
  try clear Pw5_0
  try clear Pw5_1
  try clear Pw5_2
  try clear Pw5_3
  try clear Pw5_4
  try clear Pw5_5
  try clear l_Qw5
  try clear Qw5_0
  try clear Qw5_1
  try clear Qw5_2
  try clear Qw5_3
  try clear Qw5_4
  try clear Qw5_5
  try clear P_w5
  try clear Q_w5
  try clear V_w5
  try clear VQ_w5
  try clear HB_w5
  try clear b_w6
  clear C4
  obtain ⟨x_w6, c_w6, rfl⟩ : ∃ x c, v_w6 = .slice x M.length c := by obtain ⟨x, c, h0, _⟩ := hv_w6; exact ⟨x, c, h0⟩
  have HB_w6a := Lib.hid (HB_w6.out.alloc HB_w6.out.size (.cells #[.int .i64 id, .int .i64 born, .int .i64 a, .int .i64 b, .int .i64 ser, .slice x_w6 M.length c_w6] 24))
  have P_w6a := Lib.hid (P_w6.out.alloc (.cells #[.int .i64 id, .int .i64 born, .int .i64 a, .int .i64 b, .int .i64 ser, .slice x_w6 M.length c_w6] 24))
  have Q_w6a := Lib.hid (Q_w6.out.alloc (.cells #[.int .i64 id, .int .i64 born, .int .i64 a, .int .i64 b, .int .i64 ser, .slice x_w6 M.length c_w6] 24))
  have V_w6a := Lib.hid (Rd.below V_w6.out ((br _).alloc (Nat.le_refl _) (.cells #[.int .i64 id, .int .i64 born, .int .i64 a, .int .i64 b, .int .i64 ser, .slice x_w6 M.length c_w6] 24)))
  have VQ_w6a := Lib.hid (Rd.below VQ_w6.out ((br _).alloc (Nat.le_refl _) (.cells #[.int .i64 id, .int .i64 born, .int .i64 a, .int .i64 b, .int .i64 ser, .slice x_w6 M.length c_w6] 24)))
  have VR_w6a := Lib.hid (Rd.below hv_w6 ((br _).alloc (Nat.le_refl _) (.cells #[.int .i64 id, .int .i64 born, .int .i64 a, .int .i64 b, .int .i64 ser, .slice x_w6 M.length c_w6] 24)))
  have R_w6a := Lib.hid (Box.new w6 24 [.int .i64 id, .int .i64 born, .int .i64 a, .int .i64 b, .int .i64 ser, .slice x_w6 M.length c_w6])
  try clear P_w6
  try clear Q_w6
  try clear V_w6
  try clear VQ_w6
  try clear HB_w6
  try clear hv_w6
  go_wp2_with fail
  generalize hW : w6.alloc (.cells #[.int .i64 id, .int .i64 born, .int .i64 a, .int .i64 b, .int .i64 ser, .slice x_w6 M.length c_w6] 24) = W at *
  clear hW
  have h_P := P_w6a.out
  have l_Pw6a := h_P.lt
  have Pw6a_0 := h_P.cell 0; have Pw6a_1 := h_P.cell 1; have Pw6a_2 := h_P.cell 2; have Pw6a_3 := h_P.cell 3; have Pw6a_4 := h_P.cell 4; have Pw6a_5 := h_P.cell 5
  simp only [List.getElem?_cons_zero, List.getElem?_cons_succ] at Pw6a_0 Pw6a_1 Pw6a_2 Pw6a_3 Pw6a_4 Pw6a_5
  clear h_P
  have h_Q := Q_w6a.out
  have l_Qw6a := h_Q.lt
  have Qw6a_0 := h_Q.cell 0; have Qw6a_1 := h_Q.cell 1; have Qw6a_2 := h_Q.cell 2; have Qw6a_3 := h_Q.cell 3; have Qw6a_4 := h_Q.cell 4; have Qw6a_5 := h_Q.cell 5
  simp only [List.getElem?_cons_zero, List.getElem?_cons_succ] at Qw6a_0 Qw6a_1 Qw6a_2 Qw6a_3 Qw6a_4 Qw6a_5
  clear h_Q
  have h_R := R_w6a.out
  have l_Rw6a := h_R.lt
  have Rw6a_0 := h_R.cell 0; have Rw6a_1 := h_R.cell 1; have Rw6a_2 := h_R.cell 2; have Rw6a_3 := h_R.cell 3; have Rw6a_4 := h_R.cell 4; have Rw6a_5 := h_R.cell 5
  simp only [List.getElem?_cons_zero, List.getElem?_cons_succ] at Rw6a_0 Rw6a_1 Rw6a_2 Rw6a_3 Rw6a_4 Rw6a_5
  clear h_R
  have VRd := Lib.hid (rdE_dr (E := elS) VR_w6a.out); have VQd := Lib.hid (rdE_dr (E := elS) VQ_w6a.out)
  rcases hc with ⟨rfl, rfl⟩ | ⟨rfl, hk, rfl⟩ | ⟨rfl, hk, rfl⟩
  · have hd : True := trivial
    first | (go_region_held (fun w' => w'.cell? ⟨w6.heap.size, 0, none⟩ = some (.int .i64 id) ∧ w'.cell? ⟨w6.heap.size, 1, none⟩ = some (.int .i64 born) ∧ w'.cell? ⟨w6.heap.size, 2, none⟩ = some (.int .i64 a) ∧ w'.cell? ⟨w6.heap.size, 3, none⟩ = some (.int .i64 b) ∧ w'.cell? ⟨w6.heap.size, 4, none⟩ = some (.int .i64 ser) ∧ w'.cell? ⟨w6.heap.size, 5, none⟩ = some (.slice x_w6 M.length c_w6) ∧ w'.cell? ⟨w2.heap.size, 0, none⟩ = some (.int .i64 id) ∧ w'.cell? ⟨w2.heap.size, 1, none⟩ = some (.int .i64 born) ∧ w'.cell? ⟨w2.heap.size, 2, none⟩ = some (.int .i64 a) ∧ w'.cell? ⟨w2.heap.size, 3, none⟩ = some (.int .i64 b) ∧ w'.cell? ⟨w2.heap.size, 4, none⟩ = some (.int .i64 ser) ∧ w'.cell? ⟨w2.heap.size, 5, none⟩ = some (.slice x_w2 M.length c_w2) ∧ w'.cell? ⟨w.heap.size, 5, none⟩ = some (.slice x l.length cap))
      (first | go_keep | (go_split_ands; (repeat' apply And.intro) <;> first | assumption | exact kp hb1 (by assumption) | exact kp hb2 (by assumption) | exact kp hb3 (by assumption)) | fail)
      (first
        | (go_at_call 18; (refine (CS.out _ _ _ VRd.out VQd.out).mono ?_); rintro en9 w9 ⟨rfl, hb1⟩; have HB9 := Lib.hid (bd HB_w6a.out hb1); have V9 := Lib.hid (Rd.below V_w6a.out (bd (br _) hb1)); have VQ9 := Lib.hid (Rd.below VQ_w6a.out (bd (br _) hb1)))
        | (go_at_call 22; (with_reducible refine (C5.out _ _ V9.out).mono ?_); rintro en10 w10 ⟨rfl, hb2⟩; have HB10 := Lib.hid (bt HB9.out hb2); have VQ10 := Lib.hid (Rd.below VQ9.out hb2))
        | (go_at_call 22; (with_reducible refine (C6.out _ _ VQ10.out).mono ?_); rintro en11 w11 ⟨rfl, hb3⟩; have HB11 := Lib.hid (bt HB10.out hb3))
        | fail)) | fail
    all_goals
      go_wp2
      go_ret
      exact ⟨by first | rfl | (simp; done), HB11.out⟩
  · have hd : decide (k < n) = true := decide_eq_true (by omega)
    go_region_held3 (fun w' => w'.cell? ⟨w6.heap.size, 0, none⟩ = some (.int .i64 id) ∧ w'.cell? ⟨w6.heap.size, 1, none⟩ = some (.int .i64 born) ∧ w'.cell? ⟨w6.heap.size, 2, none⟩ = some (.int .i64 a) ∧ w'.cell? ⟨w6.heap.size, 3, none⟩ = some (.int .i64 b) ∧ w'.cell? ⟨w6.heap.size, 4, none⟩ = some (.int .i64 ser) ∧ w'.cell? ⟨w6.heap.size, 5, none⟩ = some (.slice x_w6 M.length c_w6) ∧ w'.cell? ⟨w2.heap.size, 0, none⟩ = some (.int .i64 id) ∧ w'.cell? ⟨w2.heap.size, 1, none⟩ = some (.int .i64 born) ∧ w'.cell? ⟨w2.heap.size, 2, none⟩ = some (.int .i64 a) ∧ w'.cell? ⟨w2.heap.size, 3, none⟩ = some (.int .i64 b) ∧ w'.cell? ⟨w2.heap.size, 4, none⟩ = some (.int .i64 ser) ∧ w'.cell? ⟨w2.heap.size, 5, none⟩ = some (.slice x_w2 M.length c_w2) ∧ w'.cell? ⟨w.heap.size, 5, none⟩ = some (.slice x l.length cap))
      (first | go_keep | (go_split_ands; (repeat' apply And.intro) <;> first | assumption | exact kp hb1 (by assumption) | exact kp hb2 (by assumption) | exact kp hb3 (by assumption)) | fail)
      (first
        | (go_at_call 18; (refine (CS.out _ _ _ VRd.out VQd.out).mono ?_); rintro en9 w9 ⟨rfl, hb1⟩; have HB9 := Lib.hid (bd HB_w6a.out hb1); have V9 := Lib.hid (Rd.below V_w6a.out (bd (br _) hb1)); have VQ9 := Lib.hid (Rd.below VQ_w6a.out (bd (br _) hb1)))
        | (go_at_call 22; (with_reducible refine (C5.out _ _ V9.out).mono ?_); rintro en10 w10 ⟨rfl, hb2⟩; have HB10 := Lib.hid (bt HB9.out hb2); have VQ10 := Lib.hid (Rd.below VQ9.out hb2))
        | (go_at_call 22; (with_reducible refine (C6.out _ _ VQ10.out).mono ?_); rintro en11 w11 ⟨rfl, hb3⟩; have HB11 := Lib.hid (bt HB10.out hb3))
        | fail)
    go_wp2
    go_ret
    exact ⟨by first | rfl | (simp; done), HB11.out⟩
  · have hd : decide (k < n) = false := decide_eq_false (by omega)
    go_region_held3 (fun w' => w'.cell? ⟨w6.heap.size, 0, none⟩ = some (.int .i64 id) ∧ w'.cell? ⟨w6.heap.size, 1, none⟩ = some (.int .i64 born) ∧ w'.cell? ⟨w6.heap.size, 2, none⟩ = some (.int .i64 a) ∧ w'.cell? ⟨w6.heap.size, 3, none⟩ = some (.int .i64 b) ∧ w'.cell? ⟨w6.heap.size, 4, none⟩ = some (.int .i64 ser) ∧ w'.cell? ⟨w6.heap.size, 5, none⟩ = some (.slice x_w6 M.length c_w6) ∧ w'.cell? ⟨w2.heap.size, 0, none⟩ = some (.int .i64 id) ∧ w'.cell? ⟨w2.heap.size, 1, none⟩ = some (.int .i64 born) ∧ w'.cell? ⟨w2.heap.size, 2, none⟩ = some (.int .i64 a) ∧ w'.cell? ⟨w2.heap.size, 3, none⟩ = some (.int .i64 b) ∧ w'.cell? ⟨w2.heap.size, 4, none⟩ = some (.int .i64 ser) ∧ w'.cell? ⟨w2.heap.size, 5, none⟩ = some (.slice x_w2 M.length c_w2) ∧ w'.cell? ⟨w.heap.size, 5, none⟩ = some (.slice x l.length cap))
      (first | go_keep | (go_split_ands; (repeat' apply And.intro) <;> first | assumption | exact kp hb1 (by assumption) | exact kp hb2 (by assumption) | exact kp hb3 (by assumption)) | fail)
      (first
        | (go_at_call 18; (refine (CS.out _ _ _ VRd.out VQd.out).mono ?_); rintro en9 w9 ⟨rfl, hb1⟩; have HB9 := Lib.hid (bd HB_w6a.out hb1); have V9 := Lib.hid (Rd.below V_w6a.out (bd (br _) hb1)); have VQ9 := Lib.hid (Rd.below VQ_w6a.out (bd (br _) hb1)))
        | (go_at_call 22; (with_reducible refine (C5.out _ _ V9.out).mono ?_); rintro en10 w10 ⟨rfl, hb2⟩; have HB10 := Lib.hid (bt HB9.out hb2); have VQ10 := Lib.hid (Rd.below VQ9.out hb2))
        | (go_at_call 22; (with_reducible refine (C6.out _ _ VQ10.out).mono ?_); rintro en11 w11 ⟨rfl, hb3⟩; have HB11 := Lib.hid (bt HB10.out hb3))
        | fail)
    go_wp2
    go_ret
    exact ⟨by first | rfl | (simp; done), HB11.out⟩
theorem cuthas_walk (p : Ps) (d : Value) (l : List Sp) (n k z : Int) (w : World) (h : RdE elS w d l) : Calls Try.prog 6 #[aP p d, .int .i64 n, .int .i64 k, .int .i64 z] w (BoolQ true w) := by
  by_cases c : (cutG p l n).2.2 = 0
  · obtain ⟨e1, g1, g2, g3, e2⟩ := cut_yes c
    have hd1 := days_bd3 g1; have hd2 := days_bd3 g3
    refine cuthas_yes p d l (cutL n l) n k z _ (days l) (days (cutL n l)) (rawB p (cutL n l) k z) (rawB p l k z) w h
      (fun d w h => by have := cut_any p d l n w h; rw [cut_eq, e1] at this; exact this)
      (fun d w h => by have := has_any p d l k z w h; rw [g1] at this; simpa using this)
      (fun d w h => by have := has_any p d (cutL n l) k z w h; rw [g3] at this; simpa using this)
      (fun d w h => by have := cut_any p d (cutL n l) n w h; rw [cut_eq, e2] at this; exact this)
      (fun d w h => daysOf_any d l w h ((chkS_ok l).1 (passE_ok.1 g1).2.1).2.1 (by have := ((chkS_ok l).1 (passE_ok.1 g1).2.1).1; omega))
      (fun d w h => daysOf_any d _ w h ((chkS_ok _).1 (passE_ok.1 g3).2.1).2.1 (by have := ((chkS_ok _).1 (passE_ok.1 g3).2.1).1; omega))
      (IntWalk.i64_in _ (by omega)) ?_
    rw [cut_has g1 g3]
    cases rawB p l k z with
    | false => exact .inl ⟨rfl, rfl⟩
    | true =>
      by_cases hk : k < n
      · exact .inr (.inl ⟨rfl, hk, by rw [decide_eq_true hk]; rfl⟩)
      · exact .inr (.inr ⟨rfl, by omega, by rw [decide_eq_false hk]; rfl⟩)
  · exact cuthas_no p d l n k z _ c w h (fun d w h => by have := cut_any p d l n w h; rw [cut_eq, cut_no c] at this; exact this)
end Pa
end Go.Proofs.Ytcgncmlldjblmaa
