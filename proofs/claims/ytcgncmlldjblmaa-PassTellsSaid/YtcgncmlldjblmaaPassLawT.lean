/- Passes: the statement PassTells. (gen_pass3.py) -/
import Derived.Test.YtcgncmlldjblmaaPassCutR
import Derived.Test.YtcgncmlldjblmaaPassBegun
set_option linter.unusedSimpArgs false
set_option linter.unusedVariables false
namespace Go.Proofs.Ytcgncmlldjblmaa
open Go.RowKit
namespace Pa
open Dt Sn
set_option maxRecDepth 100000 in
set_option maxHeartbeats 8000000 in
theorem tells_core (p q1 q2 q3 : Ps) (d : Value) (l l1 l2 l3 : List Sp) (n z u N E1 K2 E2 E3 E4 : Int) (B4 H4 : Bool) (w : World) (h : RdE elS w d l)
    (c1 : ∀ (w : World), Calls Try.prog 8 #[.int .i64 p.id, .int .i64 p.born, .int .i64 p.a, .int .i64 p.b, .int .i64 n, .agg #[.int .i64 u, .int .i64 N]] w (PassQ (.slice none 0 0) q1 l1 E1 w))
    (c2 : ∀ (d : Value) (w : World), RdE elS w d l → Calls Try.prog 9 #[aP p d, .int .i64 n] w (PassNQ (.slice none 0 0) q2 l2 K2 E2 w))
    (c3 : ∀ (d : Value) (w : World), RdE elS w d l → Calls Try.prog 10 #[aP p d] w (PassQ (.slice none 0 0) q3 l3 E3 w))
    (c4 : ∀ (d : Value) (w : World), RdE elS w d l → Calls Try.prog 11 #[aP p d, .int .i64 n, .int .i64 z] w (fun e w' => e = .returned (.tuple #[.bool B4, .int .i64 E4]) ∧ Below w.heap.size w w'))
    (c5 : ∀ (w : World), Calls Try.prog 12 #[.int .i64 p.id, .int .i64 p.born, .int .i64 p.a, .int .i64 p.b, .int .i64 n, .agg #[.int .i64 u, .int .i64 N]] w (PassQ (.slice none 0 0) q1 l1 E1 w))
    (c6 : ∀ (d : Value) (w : World), RdE elS w d l → Calls Try.prog 13 #[aP p d, .int .i64 n] w (PassNQ (.slice none 0 0) q2 l2 K2 E2 w))
    (c7 : ∀ (d : Value) (w : World), RdE elS w d l → ∃ D, Calls Try.prog 14 #[aP p d] w (PassQ D q3 l3 E3 w))
    (c8 : ∀ (d : Value) (w : World), RdE elS w d l → Calls Try.prog 15 #[aP p d] w (Sn.IntQ E4 w))
    (c9 : ∀ (d : Value) (w : World), RdE elS w d l → Calls Try.prog 17 #[aP p d] w (Sn.IntQ E4 w))
    (c10 : ∀ (d : Value) (w : World), RdE elS w d l → Calls Try.prog 19 #[aP p d, .int .i64 n, .int .i64 z] w (BoolQ H4 w))
    (hB : (E4 = 0 ∧ B4 = true ∧ H4 = true) ∨ (E4 = 0 ∧ B4 = false ∧ H4 = false) ∨ (E4 ≠ 0 ∧ B4 = false)) :
    Calls Try.prog 3 #[aP p d, .int .i64 n, .int .i64 z, .agg #[.int .i64 u, .int .i64 N]] w (BoolQ true w) := by
  have C1 := Lib.hid c1
  have C2 := Lib.hid c2
  have C3 := Lib.hid c3
  have C4 := Lib.hid c4
  have C5 := Lib.hid c5
  have C6 := Lib.hid c6
  have C7 := Lib.hid c7
  have C8 := Lib.hid c8
  have C9 := Lib.hid c9
  have C10 := Lib.hid c10
  clear c1 c2 c3 c4 c5 c6 c7 c8 c9 c10
  have CB := Lib.hid begun_any
  obtain ⟨a11, a12, a13, a14, a15⟩ := q1
  have CS1 := Lib.hid (fun a b w h h' => same_yes ⟨a11, a12, a13, a14, a15⟩ a b l1 w h h')
  obtain ⟨a21, a22, a23, a24, a25⟩ := q2
  have CS2 := Lib.hid (fun a b w h h' => same_yes ⟨a21, a22, a23, a24, a25⟩ a b l2 w h h')
  obtain ⟨a31, a32, a33, a34, a35⟩ := q3
  have CS3 := Lib.hid (fun a b w h h' => same_yes ⟨a31, a32, a33, a34, a35⟩ a b l3 w h h')
  have eE1 : (E1 == E1) = true := by simp
  have eE2 : (E2 == E2) = true := by simp
  have eE3 : (E3 == E3) = true := by simp
  have eE4 : (E4 == E4) = true := by simp
  have eK2 : (K2 == K2) = true := by simp
  have HBD := Lib.hid hB
  clear hB
  obtain ⟨id, born, a, b, ser⟩ := p
  have HV0 := Lib.hid h
  obtain ⟨x, cap, rfl, _, _, _⟩ := h
  try simp only at C1 C5
  have V_w := Lib.hid (HV0.out)
  have HB_wa := Lib.hid ((br w).alloc (Nat.le_refl _) (.cells #[.int .i64 id, .int .i64 born, .int .i64 a, .int .i64 b, .int .i64 ser, .slice x l.length cap] 24))
  have V_wa := Lib.hid (Rd.below V_w.out ((br _).alloc (Nat.le_refl _) (.cells #[.int .i64 id, .int .i64 born, .int .i64 a, .int .i64 b, .int .i64 ser, .slice x l.length cap] 24)))
  have P_wa := Lib.hid (Box.new w 24 [.int .i64 id, .int .i64 born, .int .i64 a, .int .i64 b, .int .i64 ser, .slice x l.length cap])
  try clear P_w
  try clear V_w
  have HB_wb := Lib.hid (HB_wa.out.alloc HB_wa.out.size (.cells #[.int .i64 u, .int .i64 N] 26))
  have P_wb := Lib.hid (P_wa.out.alloc (.cells #[.int .i64 u, .int .i64 N] 26))
  have V_wb := Lib.hid (Rd.below V_wa.out ((br _).alloc (Nat.le_refl _) (.cells #[.int .i64 u, .int .i64 N] 26)))
  have hq := Box.new (w.alloc (.cells #[.int .i64 id, .int .i64 born, .int .i64 a, .int .i64 b, .int .i64 ser, .slice x l.length cap] 24)) 26 [.int .i64 u, .int .i64 N]
  rw [asz] at hq
  have T_wb := Lib.hid hq
  clear hq
  try clear P_wa
  try clear T_wa
  try clear V_wa
  try clear HB_wa
  go_enter Try.func3, Try.ntmps3
  go_wp2_with fail
  refine (C1.out _).mono ?_
  rintro en_w2 w2 ⟨v_w2, rfl, hv_w2, _, b_w2⟩
  have HB_w2 := Lib.hid (bt HB_wb.out b_w2)
  have P_w2 := Lib.hid (P_wb.out.next b_w2)
  have T_w2 := Lib.hid (T_wb.out.next b_w2)
  have V_w2 := Lib.hid (Rd.below V_wb.out b_w2)
  try clear P_wb
  try clear T_wb
  try clear V_wb
  try clear HB_wb
  try clear b_w2
  clear C1
  obtain ⟨x_w2, c_w2, rfl⟩ : ∃ x c, v_w2 = .slice x l1.length c := by obtain ⟨x, c, h0, _⟩ := hv_w2; exact ⟨x, c, h0⟩
  have h_P := P_w2.out
  have l_Pw2 := h_P.lt
  have Pw2_0 := h_P.cell 0; have Pw2_1 := h_P.cell 1; have Pw2_2 := h_P.cell 2; have Pw2_3 := h_P.cell 3; have Pw2_4 := h_P.cell 4; have Pw2_5 := h_P.cell 5
  simp only [List.getElem?_cons_zero, List.getElem?_cons_succ] at Pw2_0 Pw2_1 Pw2_2 Pw2_3 Pw2_4 Pw2_5
  clear h_P
  have h_T := T_w2.out
  have l_Tw2 := h_T.lt
  have Tw2_0 := h_T.cell 0; have Tw2_1 := h_T.cell 1
  simp only [List.getElem?_cons_zero, List.getElem?_cons_succ] at Tw2_0 Tw2_1
  clear h_T
  have HB_w2a := Lib.hid (HB_w2.out.alloc HB_w2.out.size (.cells #[.int .i64 a11, .int .i64 a12, .int .i64 a13, .int .i64 a14, .int .i64 a15, .slice x_w2 l1.length c_w2] 24))
  have P_w2a := Lib.hid (P_w2.out.alloc (.cells #[.int .i64 a11, .int .i64 a12, .int .i64 a13, .int .i64 a14, .int .i64 a15, .slice x_w2 l1.length c_w2] 24))
  have T_w2a := Lib.hid (T_w2.out.alloc (.cells #[.int .i64 a11, .int .i64 a12, .int .i64 a13, .int .i64 a14, .int .i64 a15, .slice x_w2 l1.length c_w2] 24))
  have V_w2a := Lib.hid (Rd.below V_w2.out ((br _).alloc (Nat.le_refl _) (.cells #[.int .i64 a11, .int .i64 a12, .int .i64 a13, .int .i64 a14, .int .i64 a15, .slice x_w2 l1.length c_w2] 24)))
  have VA_w2a := Lib.hid (Rd.below hv_w2 ((br _).alloc (Nat.le_refl _) (.cells #[.int .i64 a11, .int .i64 a12, .int .i64 a13, .int .i64 a14, .int .i64 a15, .slice x_w2 l1.length c_w2] 24)))
  have A_w2a := Lib.hid (Box.new w2 24 [.int .i64 a11, .int .i64 a12, .int .i64 a13, .int .i64 a14, .int .i64 a15, .slice x_w2 l1.length c_w2])
  try clear P_w2
  try clear T_w2
  try clear V_w2
  try clear HB_w2
  try clear hv_w2
  go_wp2_with fail
  refine (C2.out _ _ V_w2a.out).mono ?_
  rintro en_w3 w3 ⟨v_w3, rfl, hv_w3, _, b_w3⟩
  have HB_w3 := Lib.hid (bt HB_w2a.out b_w3)
  have P_w3 := Lib.hid (P_w2a.out.next b_w3)
  have T_w3 := Lib.hid (T_w2a.out.next b_w3)
  have A_w3 := Lib.hid (A_w2a.out.next b_w3)
  have V_w3 := Lib.hid (Rd.below V_w2a.out b_w3)
  have VA_w3 := Lib.hid (Rd.below VA_w2a.out b_w3)
  try clear l_Pw2
  try clear Pw2_0
  try clear Pw2_1
  try clear Pw2_2
  try clear Pw2_3
  try clear Pw2_4
  try clear Pw2_5
  try clear l_Tw2
  try clear Tw2_0
  try clear Tw2_1
  try clear P_w2a
  try clear T_w2a
  try clear A_w2a
  try clear V_w2a
  try clear VA_w2a
  try clear HB_w2a
  try clear b_w3
  clear C2
  obtain ⟨x_w3, c_w3, rfl⟩ : ∃ x c, v_w3 = .slice x l2.length c := by obtain ⟨x, c, h0, _⟩ := hv_w3; exact ⟨x, c, h0⟩
  have h_P := P_w3.out
  have l_Pw3 := h_P.lt
  have Pw3_0 := h_P.cell 0; have Pw3_1 := h_P.cell 1; have Pw3_2 := h_P.cell 2; have Pw3_3 := h_P.cell 3; have Pw3_4 := h_P.cell 4; have Pw3_5 := h_P.cell 5
  simp only [List.getElem?_cons_zero, List.getElem?_cons_succ] at Pw3_0 Pw3_1 Pw3_2 Pw3_3 Pw3_4 Pw3_5
  clear h_P
  have h_T := T_w3.out
  have l_Tw3 := h_T.lt
  have Tw3_0 := h_T.cell 0; have Tw3_1 := h_T.cell 1
  simp only [List.getElem?_cons_zero, List.getElem?_cons_succ] at Tw3_0 Tw3_1
  clear h_T
  have HB_w3a := Lib.hid (HB_w3.out.alloc HB_w3.out.size (.cells #[.int .i64 a21, .int .i64 a22, .int .i64 a23, .int .i64 a24, .int .i64 a25, .slice x_w3 l2.length c_w3] 24))
  have P_w3a := Lib.hid (P_w3.out.alloc (.cells #[.int .i64 a21, .int .i64 a22, .int .i64 a23, .int .i64 a24, .int .i64 a25, .slice x_w3 l2.length c_w3] 24))
  have T_w3a := Lib.hid (T_w3.out.alloc (.cells #[.int .i64 a21, .int .i64 a22, .int .i64 a23, .int .i64 a24, .int .i64 a25, .slice x_w3 l2.length c_w3] 24))
  have A_w3a := Lib.hid (A_w3.out.alloc (.cells #[.int .i64 a21, .int .i64 a22, .int .i64 a23, .int .i64 a24, .int .i64 a25, .slice x_w3 l2.length c_w3] 24))
  have V_w3a := Lib.hid (Rd.below V_w3.out ((br _).alloc (Nat.le_refl _) (.cells #[.int .i64 a21, .int .i64 a22, .int .i64 a23, .int .i64 a24, .int .i64 a25, .slice x_w3 l2.length c_w3] 24)))
  have VA_w3a := Lib.hid (Rd.below VA_w3.out ((br _).alloc (Nat.le_refl _) (.cells #[.int .i64 a21, .int .i64 a22, .int .i64 a23, .int .i64 a24, .int .i64 a25, .slice x_w3 l2.length c_w3] 24)))
  have VB_w3a := Lib.hid (Rd.below hv_w3 ((br _).alloc (Nat.le_refl _) (.cells #[.int .i64 a21, .int .i64 a22, .int .i64 a23, .int .i64 a24, .int .i64 a25, .slice x_w3 l2.length c_w3] 24)))
  have B_w3a := Lib.hid (Box.new w3 24 [.int .i64 a21, .int .i64 a22, .int .i64 a23, .int .i64 a24, .int .i64 a25, .slice x_w3 l2.length c_w3])
  try clear P_w3
  try clear T_w3
  try clear A_w3
  try clear V_w3
  try clear VA_w3
  try clear HB_w3
  try clear hv_w3
  go_wp2_with fail
  refine (C3.out _ _ V_w3a.out).mono ?_
  rintro en_w4 w4 ⟨v_w4, rfl, hv_w4, _, b_w4⟩
  have HB_w4 := Lib.hid (bt HB_w3a.out b_w4)
  have P_w4 := Lib.hid (P_w3a.out.next b_w4)
  have T_w4 := Lib.hid (T_w3a.out.next b_w4)
  have A_w4 := Lib.hid (A_w3a.out.next b_w4)
  have B_w4 := Lib.hid (B_w3a.out.next b_w4)
  have V_w4 := Lib.hid (Rd.below V_w3a.out b_w4)
  have VA_w4 := Lib.hid (Rd.below VA_w3a.out b_w4)
  have VB_w4 := Lib.hid (Rd.below VB_w3a.out b_w4)
  try clear l_Pw3
  try clear Pw3_0
  try clear Pw3_1
  try clear Pw3_2
  try clear Pw3_3
  try clear Pw3_4
  try clear Pw3_5
  try clear l_Tw3
  try clear Tw3_0
  try clear Tw3_1
  try clear P_w3a
  try clear T_w3a
  try clear A_w3a
  try clear B_w3a
  try clear V_w3a
  try clear VA_w3a
  try clear VB_w3a
  try clear HB_w3a
  try clear b_w4
  clear C3
  obtain ⟨x_w4, c_w4, rfl⟩ : ∃ x c, v_w4 = .slice x l3.length c := by obtain ⟨x, c, h0, _⟩ := hv_w4; exact ⟨x, c, h0⟩
  have h_P := P_w4.out
  have l_Pw4 := h_P.lt
  have Pw4_0 := h_P.cell 0; have Pw4_1 := h_P.cell 1; have Pw4_2 := h_P.cell 2; have Pw4_3 := h_P.cell 3; have Pw4_4 := h_P.cell 4; have Pw4_5 := h_P.cell 5
  simp only [List.getElem?_cons_zero, List.getElem?_cons_succ] at Pw4_0 Pw4_1 Pw4_2 Pw4_3 Pw4_4 Pw4_5
  clear h_P
  have h_T := T_w4.out
  have l_Tw4 := h_T.lt
  have Tw4_0 := h_T.cell 0; have Tw4_1 := h_T.cell 1
  simp only [List.getElem?_cons_zero, List.getElem?_cons_succ] at Tw4_0 Tw4_1
  clear h_T
  have HB_w4a := Lib.hid (HB_w4.out.alloc HB_w4.out.size (.cells #[.int .i64 a31, .int .i64 a32, .int .i64 a33, .int .i64 a34, .int .i64 a35, .slice x_w4 l3.length c_w4] 24))
  have P_w4a := Lib.hid (P_w4.out.alloc (.cells #[.int .i64 a31, .int .i64 a32, .int .i64 a33, .int .i64 a34, .int .i64 a35, .slice x_w4 l3.length c_w4] 24))
  have T_w4a := Lib.hid (T_w4.out.alloc (.cells #[.int .i64 a31, .int .i64 a32, .int .i64 a33, .int .i64 a34, .int .i64 a35, .slice x_w4 l3.length c_w4] 24))
  have A_w4a := Lib.hid (A_w4.out.alloc (.cells #[.int .i64 a31, .int .i64 a32, .int .i64 a33, .int .i64 a34, .int .i64 a35, .slice x_w4 l3.length c_w4] 24))
  have B_w4a := Lib.hid (B_w4.out.alloc (.cells #[.int .i64 a31, .int .i64 a32, .int .i64 a33, .int .i64 a34, .int .i64 a35, .slice x_w4 l3.length c_w4] 24))
  have V_w4a := Lib.hid (Rd.below V_w4.out ((br _).alloc (Nat.le_refl _) (.cells #[.int .i64 a31, .int .i64 a32, .int .i64 a33, .int .i64 a34, .int .i64 a35, .slice x_w4 l3.length c_w4] 24)))
  have VA_w4a := Lib.hid (Rd.below VA_w4.out ((br _).alloc (Nat.le_refl _) (.cells #[.int .i64 a31, .int .i64 a32, .int .i64 a33, .int .i64 a34, .int .i64 a35, .slice x_w4 l3.length c_w4] 24)))
  have VB_w4a := Lib.hid (Rd.below VB_w4.out ((br _).alloc (Nat.le_refl _) (.cells #[.int .i64 a31, .int .i64 a32, .int .i64 a33, .int .i64 a34, .int .i64 a35, .slice x_w4 l3.length c_w4] 24)))
  have VC_w4a := Lib.hid (Rd.below hv_w4 ((br _).alloc (Nat.le_refl _) (.cells #[.int .i64 a31, .int .i64 a32, .int .i64 a33, .int .i64 a34, .int .i64 a35, .slice x_w4 l3.length c_w4] 24)))
  have C_w4a := Lib.hid (Box.new w4 24 [.int .i64 a31, .int .i64 a32, .int .i64 a33, .int .i64 a34, .int .i64 a35, .slice x_w4 l3.length c_w4])
  try clear P_w4
  try clear T_w4
  try clear A_w4
  try clear B_w4
  try clear V_w4
  try clear VA_w4
  try clear VB_w4
  try clear HB_w4
  try clear hv_w4
  go_wp2_with fail
  refine (C4.out _ _ V_w4a.out).mono ?_
  rintro en_w5 w5 ⟨rfl, b_w5⟩
  have HB_w5 := Lib.hid (bt HB_w4a.out b_w5)
  have P_w5 := Lib.hid (P_w4a.out.next b_w5)
  have T_w5 := Lib.hid (T_w4a.out.next b_w5)
  have A_w5 := Lib.hid (A_w4a.out.next b_w5)
  have B_w5 := Lib.hid (B_w4a.out.next b_w5)
  have C_w5 := Lib.hid (C_w4a.out.next b_w5)
  have V_w5 := Lib.hid (Rd.below V_w4a.out b_w5)
  have VA_w5 := Lib.hid (Rd.below VA_w4a.out b_w5)
  have VB_w5 := Lib.hid (Rd.below VB_w4a.out b_w5)
  have VC_w5 := Lib.hid (Rd.below VC_w4a.out b_w5)
  try clear l_Pw4
  try clear Pw4_0
  try clear Pw4_1
  try clear Pw4_2
  try clear Pw4_3
  try clear Pw4_4
  try clear Pw4_5
  try clear l_Tw4
  try clear Tw4_0
  try clear Tw4_1
  try clear P_w4a
  try clear T_w4a
  try clear A_w4a
  try clear B_w4a
  try clear C_w4a
  try clear V_w4a
  try clear VA_w4a
  try clear VB_w4a
  try clear VC_w4a
  try clear HB_w4a
  try clear b_w5
  clear C4
  have h_P := P_w5.out
  have l_Pw5 := h_P.lt
  have Pw5_0 := h_P.cell 0; have Pw5_1 := h_P.cell 1; have Pw5_2 := h_P.cell 2; have Pw5_3 := h_P.cell 3; have Pw5_4 := h_P.cell 4; have Pw5_5 := h_P.cell 5
  simp only [List.getElem?_cons_zero, List.getElem?_cons_succ] at Pw5_0 Pw5_1 Pw5_2 Pw5_3 Pw5_4 Pw5_5
  clear h_P
  have h_T := T_w5.out
  have l_Tw5 := h_T.lt
  have Tw5_0 := h_T.cell 0; have Tw5_1 := h_T.cell 1
  simp only [List.getElem?_cons_zero, List.getElem?_cons_succ] at Tw5_0 Tw5_1
  clear h_T
  go_wp2_with fail
  refine (C5.out _).mono ?_
  rintro en_w6 w6 ⟨v_w6, rfl, hv_w6, _, b_w6⟩
  have HB_w6 := Lib.hid (bt HB_w5.out b_w6)
  have P_w6 := Lib.hid (P_w5.out.next b_w6)
  have T_w6 := Lib.hid (T_w5.out.next b_w6)
  have A_w6 := Lib.hid (A_w5.out.next b_w6)
  have B_w6 := Lib.hid (B_w5.out.next b_w6)
  have C_w6 := Lib.hid (C_w5.out.next b_w6)
  have V_w6 := Lib.hid (Rd.below V_w5.out b_w6)
  have VA_w6 := Lib.hid (Rd.below VA_w5.out b_w6)
  have VB_w6 := Lib.hid (Rd.below VB_w5.out b_w6)
  have VC_w6 := Lib.hid (Rd.below VC_w5.out b_w6)
  try clear l_Pw5
  try clear Pw5_0
  try clear Pw5_1
  try clear Pw5_2
  try clear Pw5_3
  try clear Pw5_4
  try clear Pw5_5
  try clear l_Tw5
  try clear Tw5_0
  try clear Tw5_1
  try clear P_w5
  try clear T_w5
  try clear A_w5
  try clear B_w5
  try clear C_w5
  try clear V_w5
  try clear VA_w5
  try clear VB_w5
  try clear VC_w5
  try clear HB_w5
  try clear b_w6
  clear C5
  obtain ⟨x_w6, c_w6, rfl⟩ : ∃ x c, v_w6 = .slice x l1.length c := by obtain ⟨x, c, h0, _⟩ := hv_w6; exact ⟨x, c, h0⟩
  have h_P := P_w6.out
  have l_Pw6 := h_P.lt
  have Pw6_0 := h_P.cell 0; have Pw6_1 := h_P.cell 1; have Pw6_2 := h_P.cell 2; have Pw6_3 := h_P.cell 3; have Pw6_4 := h_P.cell 4; have Pw6_5 := h_P.cell 5
  simp only [List.getElem?_cons_zero, List.getElem?_cons_succ] at Pw6_0 Pw6_1 Pw6_2 Pw6_3 Pw6_4 Pw6_5
  clear h_P
  have h_T := T_w6.out
  have l_Tw6 := h_T.lt
  have Tw6_0 := h_T.cell 0; have Tw6_1 := h_T.cell 1
  simp only [List.getElem?_cons_zero, List.getElem?_cons_succ] at Tw6_0 Tw6_1
  clear h_T
  have HB_w6a := Lib.hid (HB_w6.out.alloc HB_w6.out.size (.cells #[.int .i64 a11, .int .i64 a12, .int .i64 a13, .int .i64 a14, .int .i64 a15, .slice x_w6 l1.length c_w6] 24))
  have P_w6a := Lib.hid (P_w6.out.alloc (.cells #[.int .i64 a11, .int .i64 a12, .int .i64 a13, .int .i64 a14, .int .i64 a15, .slice x_w6 l1.length c_w6] 24))
  have T_w6a := Lib.hid (T_w6.out.alloc (.cells #[.int .i64 a11, .int .i64 a12, .int .i64 a13, .int .i64 a14, .int .i64 a15, .slice x_w6 l1.length c_w6] 24))
  have A_w6a := Lib.hid (A_w6.out.alloc (.cells #[.int .i64 a11, .int .i64 a12, .int .i64 a13, .int .i64 a14, .int .i64 a15, .slice x_w6 l1.length c_w6] 24))
  have B_w6a := Lib.hid (B_w6.out.alloc (.cells #[.int .i64 a11, .int .i64 a12, .int .i64 a13, .int .i64 a14, .int .i64 a15, .slice x_w6 l1.length c_w6] 24))
  have C_w6a := Lib.hid (C_w6.out.alloc (.cells #[.int .i64 a11, .int .i64 a12, .int .i64 a13, .int .i64 a14, .int .i64 a15, .slice x_w6 l1.length c_w6] 24))
  have V_w6a := Lib.hid (Rd.below V_w6.out ((br _).alloc (Nat.le_refl _) (.cells #[.int .i64 a11, .int .i64 a12, .int .i64 a13, .int .i64 a14, .int .i64 a15, .slice x_w6 l1.length c_w6] 24)))
  have VA_w6a := Lib.hid (Rd.below VA_w6.out ((br _).alloc (Nat.le_refl _) (.cells #[.int .i64 a11, .int .i64 a12, .int .i64 a13, .int .i64 a14, .int .i64 a15, .slice x_w6 l1.length c_w6] 24)))
  have VB_w6a := Lib.hid (Rd.below VB_w6.out ((br _).alloc (Nat.le_refl _) (.cells #[.int .i64 a11, .int .i64 a12, .int .i64 a13, .int .i64 a14, .int .i64 a15, .slice x_w6 l1.length c_w6] 24)))
  have VC_w6a := Lib.hid (Rd.below VC_w6.out ((br _).alloc (Nat.le_refl _) (.cells #[.int .i64 a11, .int .i64 a12, .int .i64 a13, .int .i64 a14, .int .i64 a15, .slice x_w6 l1.length c_w6] 24)))
  have VX_w6a := Lib.hid (Rd.below hv_w6 ((br _).alloc (Nat.le_refl _) (.cells #[.int .i64 a11, .int .i64 a12, .int .i64 a13, .int .i64 a14, .int .i64 a15, .slice x_w6 l1.length c_w6] 24)))
  have X_w6a := Lib.hid (Box.new w6 24 [.int .i64 a11, .int .i64 a12, .int .i64 a13, .int .i64 a14, .int .i64 a15, .slice x_w6 l1.length c_w6])
  try clear P_w6
  try clear T_w6
  try clear A_w6
  try clear B_w6
  try clear C_w6
  try clear V_w6
  try clear VA_w6
  try clear VB_w6
  try clear VC_w6
  try clear HB_w6
  try clear hv_w6
  go_wp2_with fail
  refine (C6.out _ _ V_w6a.out).mono ?_
  rintro en_w7 w7 ⟨v_w7, rfl, hv_w7, _, b_w7⟩
  have HB_w7 := Lib.hid (bt HB_w6a.out b_w7)
  have P_w7 := Lib.hid (P_w6a.out.next b_w7)
  have T_w7 := Lib.hid (T_w6a.out.next b_w7)
  have A_w7 := Lib.hid (A_w6a.out.next b_w7)
  have B_w7 := Lib.hid (B_w6a.out.next b_w7)
  have C_w7 := Lib.hid (C_w6a.out.next b_w7)
  have X_w7 := Lib.hid (X_w6a.out.next b_w7)
  have V_w7 := Lib.hid (Rd.below V_w6a.out b_w7)
  have VA_w7 := Lib.hid (Rd.below VA_w6a.out b_w7)
  have VB_w7 := Lib.hid (Rd.below VB_w6a.out b_w7)
  have VC_w7 := Lib.hid (Rd.below VC_w6a.out b_w7)
  have VX_w7 := Lib.hid (Rd.below VX_w6a.out b_w7)
  try clear l_Pw6
  try clear Pw6_0
  try clear Pw6_1
  try clear Pw6_2
  try clear Pw6_3
  try clear Pw6_4
  try clear Pw6_5
  try clear l_Tw6
  try clear Tw6_0
  try clear Tw6_1
  try clear P_w6a
  try clear T_w6a
  try clear A_w6a
  try clear B_w6a
  try clear C_w6a
  try clear X_w6a
  try clear V_w6a
  try clear VA_w6a
  try clear VB_w6a
  try clear VC_w6a
  try clear VX_w6a
  try clear HB_w6a
  try clear b_w7
  clear C6
  obtain ⟨x_w7, c_w7, rfl⟩ : ∃ x c, v_w7 = .slice x l2.length c := by obtain ⟨x, c, h0, _⟩ := hv_w7; exact ⟨x, c, h0⟩
  have h_P := P_w7.out
  have l_Pw7 := h_P.lt
  have Pw7_0 := h_P.cell 0; have Pw7_1 := h_P.cell 1; have Pw7_2 := h_P.cell 2; have Pw7_3 := h_P.cell 3; have Pw7_4 := h_P.cell 4; have Pw7_5 := h_P.cell 5
  simp only [List.getElem?_cons_zero, List.getElem?_cons_succ] at Pw7_0 Pw7_1 Pw7_2 Pw7_3 Pw7_4 Pw7_5
  clear h_P
  have h_T := T_w7.out
  have l_Tw7 := h_T.lt
  have Tw7_0 := h_T.cell 0; have Tw7_1 := h_T.cell 1
  simp only [List.getElem?_cons_zero, List.getElem?_cons_succ] at Tw7_0 Tw7_1
  clear h_T
  have HB_w7a := Lib.hid (HB_w7.out.alloc HB_w7.out.size (.cells #[.int .i64 a21, .int .i64 a22, .int .i64 a23, .int .i64 a24, .int .i64 a25, .slice x_w7 l2.length c_w7] 24))
  have P_w7a := Lib.hid (P_w7.out.alloc (.cells #[.int .i64 a21, .int .i64 a22, .int .i64 a23, .int .i64 a24, .int .i64 a25, .slice x_w7 l2.length c_w7] 24))
  have T_w7a := Lib.hid (T_w7.out.alloc (.cells #[.int .i64 a21, .int .i64 a22, .int .i64 a23, .int .i64 a24, .int .i64 a25, .slice x_w7 l2.length c_w7] 24))
  have A_w7a := Lib.hid (A_w7.out.alloc (.cells #[.int .i64 a21, .int .i64 a22, .int .i64 a23, .int .i64 a24, .int .i64 a25, .slice x_w7 l2.length c_w7] 24))
  have B_w7a := Lib.hid (B_w7.out.alloc (.cells #[.int .i64 a21, .int .i64 a22, .int .i64 a23, .int .i64 a24, .int .i64 a25, .slice x_w7 l2.length c_w7] 24))
  have C_w7a := Lib.hid (C_w7.out.alloc (.cells #[.int .i64 a21, .int .i64 a22, .int .i64 a23, .int .i64 a24, .int .i64 a25, .slice x_w7 l2.length c_w7] 24))
  have X_w7a := Lib.hid (X_w7.out.alloc (.cells #[.int .i64 a21, .int .i64 a22, .int .i64 a23, .int .i64 a24, .int .i64 a25, .slice x_w7 l2.length c_w7] 24))
  have V_w7a := Lib.hid (Rd.below V_w7.out ((br _).alloc (Nat.le_refl _) (.cells #[.int .i64 a21, .int .i64 a22, .int .i64 a23, .int .i64 a24, .int .i64 a25, .slice x_w7 l2.length c_w7] 24)))
  have VA_w7a := Lib.hid (Rd.below VA_w7.out ((br _).alloc (Nat.le_refl _) (.cells #[.int .i64 a21, .int .i64 a22, .int .i64 a23, .int .i64 a24, .int .i64 a25, .slice x_w7 l2.length c_w7] 24)))
  have VB_w7a := Lib.hid (Rd.below VB_w7.out ((br _).alloc (Nat.le_refl _) (.cells #[.int .i64 a21, .int .i64 a22, .int .i64 a23, .int .i64 a24, .int .i64 a25, .slice x_w7 l2.length c_w7] 24)))
  have VC_w7a := Lib.hid (Rd.below VC_w7.out ((br _).alloc (Nat.le_refl _) (.cells #[.int .i64 a21, .int .i64 a22, .int .i64 a23, .int .i64 a24, .int .i64 a25, .slice x_w7 l2.length c_w7] 24)))
  have VX_w7a := Lib.hid (Rd.below VX_w7.out ((br _).alloc (Nat.le_refl _) (.cells #[.int .i64 a21, .int .i64 a22, .int .i64 a23, .int .i64 a24, .int .i64 a25, .slice x_w7 l2.length c_w7] 24)))
  have VY_w7a := Lib.hid (Rd.below hv_w7 ((br _).alloc (Nat.le_refl _) (.cells #[.int .i64 a21, .int .i64 a22, .int .i64 a23, .int .i64 a24, .int .i64 a25, .slice x_w7 l2.length c_w7] 24)))
  have Y_w7a := Lib.hid (Box.new w7 24 [.int .i64 a21, .int .i64 a22, .int .i64 a23, .int .i64 a24, .int .i64 a25, .slice x_w7 l2.length c_w7])
  try clear P_w7
  try clear T_w7
  try clear A_w7
  try clear B_w7
  try clear C_w7
  try clear X_w7
  try clear V_w7
  try clear VA_w7
  try clear VB_w7
  try clear VC_w7
  try clear VX_w7
  try clear HB_w7
  try clear hv_w7
  obtain ⟨D7, C7⟩ := C7.out _ _ V_w7a.out
  go_wp2_with fail
  refine (C7).mono ?_
  rintro en_w8 w8 ⟨v_w8, rfl, hv_w8, _, b_w8⟩
  have HB_w8 := Lib.hid (bt HB_w7a.out b_w8)
  have P_w8 := Lib.hid (P_w7a.out.next b_w8)
  have T_w8 := Lib.hid (T_w7a.out.next b_w8)
  have A_w8 := Lib.hid (A_w7a.out.next b_w8)
  have B_w8 := Lib.hid (B_w7a.out.next b_w8)
  have C_w8 := Lib.hid (C_w7a.out.next b_w8)
  have X_w8 := Lib.hid (X_w7a.out.next b_w8)
  have Y_w8 := Lib.hid (Y_w7a.out.next b_w8)
  have V_w8 := Lib.hid (Rd.below V_w7a.out b_w8)
  have VA_w8 := Lib.hid (Rd.below VA_w7a.out b_w8)
  have VB_w8 := Lib.hid (Rd.below VB_w7a.out b_w8)
  have VC_w8 := Lib.hid (Rd.below VC_w7a.out b_w8)
  have VX_w8 := Lib.hid (Rd.below VX_w7a.out b_w8)
  have VY_w8 := Lib.hid (Rd.below VY_w7a.out b_w8)
  try clear l_Pw7
  try clear Pw7_0
  try clear Pw7_1
  try clear Pw7_2
  try clear Pw7_3
  try clear Pw7_4
  try clear Pw7_5
  try clear l_Tw7
  try clear Tw7_0
  try clear Tw7_1
  try clear P_w7a
  try clear T_w7a
  try clear A_w7a
  try clear B_w7a
  try clear C_w7a
  try clear X_w7a
  try clear Y_w7a
  try clear V_w7a
  try clear VA_w7a
  try clear VB_w7a
  try clear VC_w7a
  try clear VX_w7a
  try clear VY_w7a
  try clear HB_w7a
  try clear b_w8
  clear C7
  obtain ⟨x_w8, c_w8, rfl⟩ : ∃ x c, v_w8 = .slice x l3.length c := by obtain ⟨x, c, h0, _⟩ := hv_w8; exact ⟨x, c, h0⟩
  have h_P := P_w8.out
  have l_Pw8 := h_P.lt
  have Pw8_0 := h_P.cell 0; have Pw8_1 := h_P.cell 1; have Pw8_2 := h_P.cell 2; have Pw8_3 := h_P.cell 3; have Pw8_4 := h_P.cell 4; have Pw8_5 := h_P.cell 5
  simp only [List.getElem?_cons_zero, List.getElem?_cons_succ] at Pw8_0 Pw8_1 Pw8_2 Pw8_3 Pw8_4 Pw8_5
  clear h_P
  have h_T := T_w8.out
  have l_Tw8 := h_T.lt
  have Tw8_0 := h_T.cell 0; have Tw8_1 := h_T.cell 1
  simp only [List.getElem?_cons_zero, List.getElem?_cons_succ] at Tw8_0 Tw8_1
  clear h_T
  have HB_w8a := Lib.hid (HB_w8.out.alloc HB_w8.out.size (.cells #[.int .i64 a31, .int .i64 a32, .int .i64 a33, .int .i64 a34, .int .i64 a35, .slice x_w8 l3.length c_w8] 24))
  have P_w8a := Lib.hid (P_w8.out.alloc (.cells #[.int .i64 a31, .int .i64 a32, .int .i64 a33, .int .i64 a34, .int .i64 a35, .slice x_w8 l3.length c_w8] 24))
  have T_w8a := Lib.hid (T_w8.out.alloc (.cells #[.int .i64 a31, .int .i64 a32, .int .i64 a33, .int .i64 a34, .int .i64 a35, .slice x_w8 l3.length c_w8] 24))
  have A_w8a := Lib.hid (A_w8.out.alloc (.cells #[.int .i64 a31, .int .i64 a32, .int .i64 a33, .int .i64 a34, .int .i64 a35, .slice x_w8 l3.length c_w8] 24))
  have B_w8a := Lib.hid (B_w8.out.alloc (.cells #[.int .i64 a31, .int .i64 a32, .int .i64 a33, .int .i64 a34, .int .i64 a35, .slice x_w8 l3.length c_w8] 24))
  have C_w8a := Lib.hid (C_w8.out.alloc (.cells #[.int .i64 a31, .int .i64 a32, .int .i64 a33, .int .i64 a34, .int .i64 a35, .slice x_w8 l3.length c_w8] 24))
  have X_w8a := Lib.hid (X_w8.out.alloc (.cells #[.int .i64 a31, .int .i64 a32, .int .i64 a33, .int .i64 a34, .int .i64 a35, .slice x_w8 l3.length c_w8] 24))
  have Y_w8a := Lib.hid (Y_w8.out.alloc (.cells #[.int .i64 a31, .int .i64 a32, .int .i64 a33, .int .i64 a34, .int .i64 a35, .slice x_w8 l3.length c_w8] 24))
  have V_w8a := Lib.hid (Rd.below V_w8.out ((br _).alloc (Nat.le_refl _) (.cells #[.int .i64 a31, .int .i64 a32, .int .i64 a33, .int .i64 a34, .int .i64 a35, .slice x_w8 l3.length c_w8] 24)))
  have VA_w8a := Lib.hid (Rd.below VA_w8.out ((br _).alloc (Nat.le_refl _) (.cells #[.int .i64 a31, .int .i64 a32, .int .i64 a33, .int .i64 a34, .int .i64 a35, .slice x_w8 l3.length c_w8] 24)))
  have VB_w8a := Lib.hid (Rd.below VB_w8.out ((br _).alloc (Nat.le_refl _) (.cells #[.int .i64 a31, .int .i64 a32, .int .i64 a33, .int .i64 a34, .int .i64 a35, .slice x_w8 l3.length c_w8] 24)))
  have VC_w8a := Lib.hid (Rd.below VC_w8.out ((br _).alloc (Nat.le_refl _) (.cells #[.int .i64 a31, .int .i64 a32, .int .i64 a33, .int .i64 a34, .int .i64 a35, .slice x_w8 l3.length c_w8] 24)))
  have VX_w8a := Lib.hid (Rd.below VX_w8.out ((br _).alloc (Nat.le_refl _) (.cells #[.int .i64 a31, .int .i64 a32, .int .i64 a33, .int .i64 a34, .int .i64 a35, .slice x_w8 l3.length c_w8] 24)))
  have VY_w8a := Lib.hid (Rd.below VY_w8.out ((br _).alloc (Nat.le_refl _) (.cells #[.int .i64 a31, .int .i64 a32, .int .i64 a33, .int .i64 a34, .int .i64 a35, .slice x_w8 l3.length c_w8] 24)))
  have VZ_w8a := Lib.hid (Rd.below hv_w8 ((br _).alloc (Nat.le_refl _) (.cells #[.int .i64 a31, .int .i64 a32, .int .i64 a33, .int .i64 a34, .int .i64 a35, .slice x_w8 l3.length c_w8] 24)))
  have Z_w8a := Lib.hid (Box.new w8 24 [.int .i64 a31, .int .i64 a32, .int .i64 a33, .int .i64 a34, .int .i64 a35, .slice x_w8 l3.length c_w8])
  try clear P_w8
  try clear T_w8
  try clear A_w8
  try clear B_w8
  try clear C_w8
  try clear X_w8
  try clear Y_w8
  try clear V_w8
  try clear VA_w8
  try clear VB_w8
  try clear VC_w8
  try clear VX_w8
  try clear VY_w8
  try clear HB_w8
  try clear hv_w8
  go_wp2_with fail
  refine (C8.out _ _ V_w8a.out).mono ?_
  rintro en_w9 w9 ⟨rfl, b_w9⟩
  have HB_w9 := Lib.hid (bt HB_w8a.out b_w9)
  have P_w9 := Lib.hid (P_w8a.out.next b_w9)
  have T_w9 := Lib.hid (T_w8a.out.next b_w9)
  have A_w9 := Lib.hid (A_w8a.out.next b_w9)
  have B_w9 := Lib.hid (B_w8a.out.next b_w9)
  have C_w9 := Lib.hid (C_w8a.out.next b_w9)
  have X_w9 := Lib.hid (X_w8a.out.next b_w9)
  have Y_w9 := Lib.hid (Y_w8a.out.next b_w9)
  have Z_w9 := Lib.hid (Z_w8a.out.next b_w9)
  have V_w9 := Lib.hid (Rd.below V_w8a.out b_w9)
  have VA_w9 := Lib.hid (Rd.below VA_w8a.out b_w9)
  have VB_w9 := Lib.hid (Rd.below VB_w8a.out b_w9)
  have VC_w9 := Lib.hid (Rd.below VC_w8a.out b_w9)
  have VX_w9 := Lib.hid (Rd.below VX_w8a.out b_w9)
  have VY_w9 := Lib.hid (Rd.below VY_w8a.out b_w9)
  have VZ_w9 := Lib.hid (Rd.below VZ_w8a.out b_w9)
  try clear l_Pw8
  try clear Pw8_0
  try clear Pw8_1
  try clear Pw8_2
  try clear Pw8_3
  try clear Pw8_4
  try clear Pw8_5
  try clear l_Tw8
  try clear Tw8_0
  try clear Tw8_1
  try clear P_w8a
  try clear T_w8a
  try clear A_w8a
  try clear B_w8a
  try clear C_w8a
  try clear X_w8a
  try clear Y_w8a
  try clear Z_w8a
  try clear V_w8a
  try clear VA_w8a
  try clear VB_w8a
  try clear VC_w8a
  try clear VX_w8a
  try clear VY_w8a
  try clear VZ_w8a
  try clear HB_w8a
  try clear b_w9
  clear C8
  have h_P := P_w9.out
  have l_Pw9 := h_P.lt
  have Pw9_0 := h_P.cell 0; have Pw9_1 := h_P.cell 1; have Pw9_2 := h_P.cell 2; have Pw9_3 := h_P.cell 3; have Pw9_4 := h_P.cell 4; have Pw9_5 := h_P.cell 5
  simp only [List.getElem?_cons_zero, List.getElem?_cons_succ] at Pw9_0 Pw9_1 Pw9_2 Pw9_3 Pw9_4 Pw9_5
  clear h_P
  go_wp2_with fail
  refine (CB.out _).mono ?_
  rintro en_w10 w10 ⟨rfl, b_w10⟩
  have HB_w10 := Lib.hid (bt HB_w9.out b_w10)
  have P_w10 := Lib.hid (P_w9.out.next b_w10)
  have T_w10 := Lib.hid (T_w9.out.next b_w10)
  have A_w10 := Lib.hid (A_w9.out.next b_w10)
  have B_w10 := Lib.hid (B_w9.out.next b_w10)
  have C_w10 := Lib.hid (C_w9.out.next b_w10)
  have X_w10 := Lib.hid (X_w9.out.next b_w10)
  have Y_w10 := Lib.hid (Y_w9.out.next b_w10)
  have Z_w10 := Lib.hid (Z_w9.out.next b_w10)
  have V_w10 := Lib.hid (Rd.below V_w9.out b_w10)
  have VA_w10 := Lib.hid (Rd.below VA_w9.out b_w10)
  have VB_w10 := Lib.hid (Rd.below VB_w9.out b_w10)
  have VC_w10 := Lib.hid (Rd.below VC_w9.out b_w10)
  have VX_w10 := Lib.hid (Rd.below VX_w9.out b_w10)
  have VY_w10 := Lib.hid (Rd.below VY_w9.out b_w10)
  have VZ_w10 := Lib.hid (Rd.below VZ_w9.out b_w10)
  try clear l_Pw9
  try clear Pw9_0
  try clear Pw9_1
  try clear Pw9_2
  try clear Pw9_3
  try clear Pw9_4
  try clear Pw9_5
  try clear P_w9
  try clear T_w9
  try clear A_w9
  try clear B_w9
  try clear C_w9
  try clear X_w9
  try clear Y_w9
  try clear Z_w9
  try clear V_w9
  try clear VA_w9
  try clear VB_w9
  try clear VC_w9
  try clear VX_w9
  try clear VY_w9
  try clear VZ_w9
  try clear HB_w9
  try clear b_w10
  clear CB
  have h_P := P_w10.out
  have l_Pw10 := h_P.lt
  have Pw10_0 := h_P.cell 0; have Pw10_1 := h_P.cell 1; have Pw10_2 := h_P.cell 2; have Pw10_3 := h_P.cell 3; have Pw10_4 := h_P.cell 4; have Pw10_5 := h_P.cell 5
  simp only [List.getElem?_cons_zero, List.getElem?_cons_succ] at Pw10_0 Pw10_1 Pw10_2 Pw10_3 Pw10_4 Pw10_5
  clear h_P
  go_wp2_with fail
  refine (C9.out _ _ V_w10.out).mono ?_
  rintro en_w11 w11 ⟨rfl, b_w11⟩
  have HB_w11 := Lib.hid (bt HB_w10.out b_w11)
  have P_w11 := Lib.hid (P_w10.out.next b_w11)
  have T_w11 := Lib.hid (T_w10.out.next b_w11)
  have A_w11 := Lib.hid (A_w10.out.next b_w11)
  have B_w11 := Lib.hid (B_w10.out.next b_w11)
  have C_w11 := Lib.hid (C_w10.out.next b_w11)
  have X_w11 := Lib.hid (X_w10.out.next b_w11)
  have Y_w11 := Lib.hid (Y_w10.out.next b_w11)
  have Z_w11 := Lib.hid (Z_w10.out.next b_w11)
  have V_w11 := Lib.hid (Rd.below V_w10.out b_w11)
  have VA_w11 := Lib.hid (Rd.below VA_w10.out b_w11)
  have VB_w11 := Lib.hid (Rd.below VB_w10.out b_w11)
  have VC_w11 := Lib.hid (Rd.below VC_w10.out b_w11)
  have VX_w11 := Lib.hid (Rd.below VX_w10.out b_w11)
  have VY_w11 := Lib.hid (Rd.below VY_w10.out b_w11)
  have VZ_w11 := Lib.hid (Rd.below VZ_w10.out b_w11)
  try clear l_Pw10
  try clear Pw10_0
  try clear Pw10_1
  try clear Pw10_2
  try clear Pw10_3
  try clear Pw10_4
  try clear Pw10_5
  try clear P_w10
  try clear T_w10
  try clear A_w10
  try clear B_w10
  try clear C_w10
  try clear X_w10
  try clear Y_w10
  try clear Z_w10
  try clear V_w10
  try clear VA_w10
  try clear VB_w10
  try clear VC_w10
  try clear VX_w10
  try clear VY_w10
  try clear VZ_w10
  try clear HB_w10
  try clear b_w11
  clear C9
  have h_A := A_w11.out
  have l_Aw11 := h_A.lt
  have Aw11_0 := h_A.cell 0; have Aw11_1 := h_A.cell 1; have Aw11_2 := h_A.cell 2; have Aw11_3 := h_A.cell 3; have Aw11_4 := h_A.cell 4; have Aw11_5 := h_A.cell 5
  simp only [List.getElem?_cons_zero, List.getElem?_cons_succ] at Aw11_0 Aw11_1 Aw11_2 Aw11_3 Aw11_4 Aw11_5
  clear h_A
  have h_X := X_w11.out
  have l_Xw11 := h_X.lt
  have Xw11_0 := h_X.cell 0; have Xw11_1 := h_X.cell 1; have Xw11_2 := h_X.cell 2; have Xw11_3 := h_X.cell 3; have Xw11_4 := h_X.cell 4; have Xw11_5 := h_X.cell 5
  simp only [List.getElem?_cons_zero, List.getElem?_cons_succ] at Xw11_0 Xw11_1 Xw11_2 Xw11_3 Xw11_4 Xw11_5
  clear h_X
  go_wp2_with fail
  refine (CS1.out _ _ _ VA_w11.out VX_w11.out).mono ?_
  rintro en_w12 w12 ⟨rfl, b_w12⟩
  have HB_w12 := Lib.hid (bt HB_w11.out b_w12)
  have P_w12 := Lib.hid (P_w11.out.next b_w12)
  have T_w12 := Lib.hid (T_w11.out.next b_w12)
  have A_w12 := Lib.hid (A_w11.out.next b_w12)
  have B_w12 := Lib.hid (B_w11.out.next b_w12)
  have C_w12 := Lib.hid (C_w11.out.next b_w12)
  have X_w12 := Lib.hid (X_w11.out.next b_w12)
  have Y_w12 := Lib.hid (Y_w11.out.next b_w12)
  have Z_w12 := Lib.hid (Z_w11.out.next b_w12)
  have V_w12 := Lib.hid (Rd.below V_w11.out b_w12)
  have VA_w12 := Lib.hid (Rd.below VA_w11.out b_w12)
  have VB_w12 := Lib.hid (Rd.below VB_w11.out b_w12)
  have VC_w12 := Lib.hid (Rd.below VC_w11.out b_w12)
  have VX_w12 := Lib.hid (Rd.below VX_w11.out b_w12)
  have VY_w12 := Lib.hid (Rd.below VY_w11.out b_w12)
  have VZ_w12 := Lib.hid (Rd.below VZ_w11.out b_w12)
  try clear l_Aw11
  try clear Aw11_0
  try clear Aw11_1
  try clear Aw11_2
  try clear Aw11_3
  try clear Aw11_4
  try clear Aw11_5
  try clear l_Xw11
  try clear Xw11_0
  try clear Xw11_1
  try clear Xw11_2
  try clear Xw11_3
  try clear Xw11_4
  try clear Xw11_5
  try clear P_w11
  try clear T_w11
  try clear A_w11
  try clear B_w11
  try clear C_w11
  try clear X_w11
  try clear Y_w11
  try clear Z_w11
  try clear V_w11
  try clear VA_w11
  try clear VB_w11
  try clear VC_w11
  try clear VX_w11
  try clear VY_w11
  try clear VZ_w11
  try clear HB_w11
  try clear b_w12
  clear CS1
  have h_B := B_w12.out
  have l_Bw12 := h_B.lt
  have Bw12_0 := h_B.cell 0; have Bw12_1 := h_B.cell 1; have Bw12_2 := h_B.cell 2; have Bw12_3 := h_B.cell 3; have Bw12_4 := h_B.cell 4; have Bw12_5 := h_B.cell 5
  simp only [List.getElem?_cons_zero, List.getElem?_cons_succ] at Bw12_0 Bw12_1 Bw12_2 Bw12_3 Bw12_4 Bw12_5
  clear h_B
  have h_Y := Y_w12.out
  have l_Yw12 := h_Y.lt
  have Yw12_0 := h_Y.cell 0; have Yw12_1 := h_Y.cell 1; have Yw12_2 := h_Y.cell 2; have Yw12_3 := h_Y.cell 3; have Yw12_4 := h_Y.cell 4; have Yw12_5 := h_Y.cell 5
  simp only [List.getElem?_cons_zero, List.getElem?_cons_succ] at Yw12_0 Yw12_1 Yw12_2 Yw12_3 Yw12_4 Yw12_5
  clear h_Y
  go_wp2_with fail
  refine (CS2.out _ _ _ VB_w12.out VY_w12.out).mono ?_
  rintro en_w13 w13 ⟨rfl, b_w13⟩
  have HB_w13 := Lib.hid (bt HB_w12.out b_w13)
  have P_w13 := Lib.hid (P_w12.out.next b_w13)
  have T_w13 := Lib.hid (T_w12.out.next b_w13)
  have A_w13 := Lib.hid (A_w12.out.next b_w13)
  have B_w13 := Lib.hid (B_w12.out.next b_w13)
  have C_w13 := Lib.hid (C_w12.out.next b_w13)
  have X_w13 := Lib.hid (X_w12.out.next b_w13)
  have Y_w13 := Lib.hid (Y_w12.out.next b_w13)
  have Z_w13 := Lib.hid (Z_w12.out.next b_w13)
  have V_w13 := Lib.hid (Rd.below V_w12.out b_w13)
  have VA_w13 := Lib.hid (Rd.below VA_w12.out b_w13)
  have VB_w13 := Lib.hid (Rd.below VB_w12.out b_w13)
  have VC_w13 := Lib.hid (Rd.below VC_w12.out b_w13)
  have VX_w13 := Lib.hid (Rd.below VX_w12.out b_w13)
  have VY_w13 := Lib.hid (Rd.below VY_w12.out b_w13)
  have VZ_w13 := Lib.hid (Rd.below VZ_w12.out b_w13)
  try clear l_Bw12
  try clear Bw12_0
  try clear Bw12_1
  try clear Bw12_2
  try clear Bw12_3
  try clear Bw12_4
  try clear Bw12_5
  try clear l_Yw12
  try clear Yw12_0
  try clear Yw12_1
  try clear Yw12_2
  try clear Yw12_3
  try clear Yw12_4
  try clear Yw12_5
  try clear P_w12
  try clear T_w12
  try clear A_w12
  try clear B_w12
  try clear C_w12
  try clear X_w12
  try clear Y_w12
  try clear Z_w12
  try clear V_w12
  try clear VA_w12
  try clear VB_w12
  try clear VC_w12
  try clear VX_w12
  try clear VY_w12
  try clear VZ_w12
  try clear HB_w12
  try clear b_w13
  clear CS2
  have h_C := C_w13.out
  have l_Cw13 := h_C.lt
  have Cw13_0 := h_C.cell 0; have Cw13_1 := h_C.cell 1; have Cw13_2 := h_C.cell 2; have Cw13_3 := h_C.cell 3; have Cw13_4 := h_C.cell 4; have Cw13_5 := h_C.cell 5
  simp only [List.getElem?_cons_zero, List.getElem?_cons_succ] at Cw13_0 Cw13_1 Cw13_2 Cw13_3 Cw13_4 Cw13_5
  clear h_C
  have h_Z := Z_w13.out
  have l_Zw13 := h_Z.lt
  have Zw13_0 := h_Z.cell 0; have Zw13_1 := h_Z.cell 1; have Zw13_2 := h_Z.cell 2; have Zw13_3 := h_Z.cell 3; have Zw13_4 := h_Z.cell 4; have Zw13_5 := h_Z.cell 5
  simp only [List.getElem?_cons_zero, List.getElem?_cons_succ] at Zw13_0 Zw13_1 Zw13_2 Zw13_3 Zw13_4 Zw13_5
  clear h_Z
  go_wp2_with fail
  refine (CS3.out _ _ _ VC_w13.out VZ_w13.out).mono ?_
  rintro en_w14 w14 ⟨rfl, b_w14⟩
  have HB_w14 := Lib.hid (bt HB_w13.out b_w14)
  have P_w14 := Lib.hid (P_w13.out.next b_w14)
  have T_w14 := Lib.hid (T_w13.out.next b_w14)
  have A_w14 := Lib.hid (A_w13.out.next b_w14)
  have B_w14 := Lib.hid (B_w13.out.next b_w14)
  have C_w14 := Lib.hid (C_w13.out.next b_w14)
  have X_w14 := Lib.hid (X_w13.out.next b_w14)
  have Y_w14 := Lib.hid (Y_w13.out.next b_w14)
  have Z_w14 := Lib.hid (Z_w13.out.next b_w14)
  have V_w14 := Lib.hid (Rd.below V_w13.out b_w14)
  have VA_w14 := Lib.hid (Rd.below VA_w13.out b_w14)
  have VB_w14 := Lib.hid (Rd.below VB_w13.out b_w14)
  have VC_w14 := Lib.hid (Rd.below VC_w13.out b_w14)
  have VX_w14 := Lib.hid (Rd.below VX_w13.out b_w14)
  have VY_w14 := Lib.hid (Rd.below VY_w13.out b_w14)
  have VZ_w14 := Lib.hid (Rd.below VZ_w13.out b_w14)
  try clear l_Cw13
  try clear Cw13_0
  try clear Cw13_1
  try clear Cw13_2
  try clear Cw13_3
  try clear Cw13_4
  try clear Cw13_5
  try clear l_Zw13
  try clear Zw13_0
  try clear Zw13_1
  try clear Zw13_2
  try clear Zw13_3
  try clear Zw13_4
  try clear Zw13_5
  try clear P_w13
  try clear T_w13
  try clear A_w13
  try clear B_w13
  try clear C_w13
  try clear X_w13
  try clear Y_w13
  try clear Z_w13
  try clear V_w13
  try clear VA_w13
  try clear VB_w13
  try clear VC_w13
  try clear VX_w13
  try clear VY_w13
  try clear VZ_w13
  try clear HB_w13
  try clear b_w14
  clear CS3
  have h_P := P_w14.out
  have l_Pw14 := h_P.lt
  have Pw14_0 := h_P.cell 0; have Pw14_1 := h_P.cell 1; have Pw14_2 := h_P.cell 2; have Pw14_3 := h_P.cell 3; have Pw14_4 := h_P.cell 4; have Pw14_5 := h_P.cell 5
  simp only [List.getElem?_cons_zero, List.getElem?_cons_succ] at Pw14_0 Pw14_1 Pw14_2 Pw14_3 Pw14_4 Pw14_5
  clear h_P
  rcases HBD.out with ⟨rfl, rfl, rfl⟩ | ⟨rfl, rfl, rfl⟩ | ⟨h4, rfl⟩
  · go_wp2_with fail
    refine (C10.out _ _ V_w14.out).mono ?_
    rintro en15 w15 ⟨rfl, b15⟩
    have HB15 := Lib.hid (bt HB_w14.out b15)
    clear b15
    go_wp2
    go_ret
    exact ⟨by first | rfl | (simp; done), HB15.out⟩
  · go_wp2_with fail
    refine (C10.out _ _ V_w14.out).mono ?_
    rintro en15 w15 ⟨rfl, b15⟩
    have HB15 := Lib.hid (bt HB_w14.out b15)
    clear b15
    go_wp2
    go_ret
    exact ⟨by first | rfl | (simp; done), HB15.out⟩
  · have hz : (E4 == 0) = false := by simpa using h4
    go_wp2
    go_ret
    exact ⟨by first | rfl | (simp; done), HB_w14.out⟩
theorem rawP {p : Ps} {l : List Sp} (h : passE p l = 0) (n z : Int) : rawB p l n z = hasP p l n z := by
  unfold rawB hasP
  rw [hasB_ok (passE_ok.1 h).2.1]
  cases has l n <;> cases decide (p.a ≤ z) <;> cases decide (z ≤ p.b) <;> rfl
theorem tells_walk (p : Ps) (d : Value) (l : List Sp) (n z u N : Int) (w : World) (h : RdE elS w d l) : Calls Try.prog 3 #[aP p d, .int .i64 n, .int .i64 z, aT u N] w (BoolQ true w) := by
  refine tells_core p _ (cutG p l n).1.1 _ d l _ (cutG p l n).1.2 _ n z u N _ (cutG p l n).2.1 (cutG p l n).2.2 _ (passE p l) (decide (passE p l = 0) && rawB p l n z) (hasP p l n z) w h
    (fun w => new_any p.id p.born p.a p.b n u N w)
    (fun d w h => by have := cut_any p d l n w h; rw [cut_eq] at this; exact this)
    (fun d w h => replace_any p d l w h)
    (fun d w h => has_any p d l n z w h)
    (fun w => newR_any p.id p.born p.a p.b n u N w)
    (fun d w h => cutR_any p d l n w h)
    (fun d w h => ⟨d, replaceR_any p d l w h⟩)
    (fun d w h => checkR_any p d l w h)
    (fun d w h => check_any p d l w h)
    (fun d w h => hasR_any p d l n z w h) ?_
  by_cases c : passE p l = 0
  · rw [decide_eq_true c, Bool.true_and, rawP c]
    cases hasP p l n z with
    | true => exact .inl ⟨c, rfl, rfl⟩
    | false => exact .inr (.inl ⟨c, rfl, rfl⟩)
  · exact .inr (.inr ⟨c, by rw [decide_eq_false c]; rfl⟩)
end Pa
end Go.Proofs.Ytcgncmlldjblmaa
