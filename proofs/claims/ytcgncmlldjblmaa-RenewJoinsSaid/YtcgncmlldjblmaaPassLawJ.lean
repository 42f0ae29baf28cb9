/- Passes: the statement RenewJoins. (gen_pass3.py) -/
import Derived.Test.YtcgncmlldjblmaaPassPlain2
import Derived.Test.YtcgncmlldjblmaaPassBegun
import Derived.Deep.RegionHeld3
import Derived.Deep.RegionHeld
set_option linter.unusedSimpArgs false
set_option linter.unusedVariables false
namespace Go.Proofs.Ytcgncmlldjblmaa
open Go.RowKit
namespace Pa
open Dt Sn
set_option maxRecDepth 100000 in
set_option maxHeartbeats 4000000 in
theorem joins_no (p : Ps) (d : Value) (l : List Sp) (n u N k z E : Int) (hE : E ≠ 0) (w : World) (h : RdE elS w d l)
    (c1 : ∀ (d : Value) (w : World), RdE elS w d l → Calls Try.prog 20 #[aP p d, .int .i64 n, .agg #[.int .i64 u, .int .i64 N]] w (PassNQ (.slice none 0 0) ⟨0, 0, 0, 0, 0⟩ [] 0 E w)) :
    Calls Try.prog 5 #[aP p d, .int .i64 n, .agg #[.int .i64 u, .int .i64 N], .int .i64 k, .int .i64 z] w (BoolQ true w) := by
  have C1 := Lib.hid c1
  clear c1
  have CB := Lib.hid begun_any
  have CS := Lib.hid (fun a b w h h' => same_yes ⟨0, 0, 0, 0, 0⟩ a b [] w h h')
  have hz : (E == 0) = false := by simpa using hE
  obtain ⟨id, born, a, b, ser⟩ := p
  have HV0 := Lib.hid h
  obtain ⟨x, cap, rfl, _, _, _⟩ := h
  have V_w := Lib.hid (HV0.out)
  have HB_wa := Lib.hid ((br w).alloc (Nat.le_refl _) (.cells #[.int .i64 id, .int .i64 born, .int .i64 a, .int .i64 b, .int .i64 ser, .slice x l.length cap] 24))
  have V_wa := Lib.hid (Rd.below V_w.out ((br _).alloc (Nat.le_refl _) (.cells #[.int .i64 id, .int .i64 born, .int .i64 a, .int .i64 b, .int .i64 ser, .slice x l.length cap] 24)))
  have P_wa := Lib.hid (Box.new w 24 [.int .i64 id, .int .i64 born, .int .i64 a, .int .i64 b, .int .i64 ser, .slice x l.length cap])
  try clear P_w
  try clear V_w
  have HB_wb := Lib.hid (HB_wa.out.alloc HB_wa.out.size (.cells #[.int .i64 u, .int .i64 N] 26))
  have P_wb := Lib.hid (P_wa.out.alloc (.cells #[.int .i64 u, .int .i64 N] 26))
  have V_wb := Lib.hid (Rd.below V_wa.out ((br _).alloc (Nat.le_refl _) (.cells #[.int .i64 u, .int .i64 N] 26)))
  have hq := Box.new (w.alloc (.cells #[.int .i64 id, .int .i64 born, .int .i64 a, .int .i64 b, .int .i64 ser, .slice x l.length cap] 24)) 26 [.int .i64 u, .int .i64 N]
  rw [asz] at hq
  have T_wb := Lib.hid hq
  clear hq
  try clear P_wa
  try clear T_wa
  try clear V_wa
  try clear HB_wa
  go_enter Try.func5, Try.ntmps5
  go_wp2_with fail
  refine (C1.out _ _ V_wb.out).mono ?_
  rintro en_w2 w2 ⟨v_w2, rfl, hv_w2, _, b_w2⟩
  have HB_w2 := Lib.hid (bt HB_wb.out b_w2)
  have P_w2 := Lib.hid (P_wb.out.next b_w2)
  have T_w2 := Lib.hid (T_wb.out.next b_w2)
  have V_w2 := Lib.hid (Rd.below V_wb.out b_w2)
  try clear P_wb
  try clear T_wb
  try clear V_wb
  try clear HB_wb
  try clear b_w2
  obtain ⟨x_w2, c_w2, rfl⟩ : ∃ x c, v_w2 = .slice x 0 c := by obtain ⟨x, c, h0, _⟩ := hv_w2; exact ⟨x, c, h0⟩
  have HB_w2a := Lib.hid (HB_w2.out.alloc HB_w2.out.size (.cells #[.int .i64 0, .int .i64 0, .int .i64 0, .int .i64 0, .int .i64 0, .slice x_w2 0 c_w2] 24))
  have P_w2a := Lib.hid (P_w2.out.alloc (.cells #[.int .i64 0, .int .i64 0, .int .i64 0, .int .i64 0, .int .i64 0, .slice x_w2 0 c_w2] 24))
  have T_w2a := Lib.hid (T_w2.out.alloc (.cells #[.int .i64 0, .int .i64 0, .int .i64 0, .int .i64 0, .int .i64 0, .slice x_w2 0 c_w2] 24))
  have V_w2a := Lib.hid (Rd.below V_w2.out ((br _).alloc (Nat.le_refl _) (.cells #[.int .i64 0, .int .i64 0, .int .i64 0, .int .i64 0, .int .i64 0, .slice x_w2 0 c_w2] 24)))
  have VQ_w2a := Lib.hid (Rd.below hv_w2 ((br _).alloc (Nat.le_refl _) (.cells #[.int .i64 0, .int .i64 0, .int .i64 0, .int .i64 0, .int .i64 0, .slice x_w2 0 c_w2] 24)))
  have Q_w2a := Lib.hid (Box.new w2 24 [.int .i64 0, .int .i64 0, .int .i64 0, .int .i64 0, .int .i64 0, .slice x_w2 0 c_w2])
  try clear P_w2
  try clear T_w2
  try clear V_w2
  try clear HB_w2
  go_wp2_with fail
  refine (CB.out _).mono ?_
  rintro en_w3 w3 ⟨rfl, b_w3⟩
  have HB_w3 := Lib.hid (bt HB_w2a.out b_w3)
  have P_w3 := Lib.hid (P_w2a.out.next b_w3)
  have T_w3 := Lib.hid (T_w2a.out.next b_w3)
  have Q_w3 := Lib.hid (Q_w2a.out.next b_w3)
  have V_w3 := Lib.hid (Rd.below V_w2a.out b_w3)
  have VQ_w3 := Lib.hid (Rd.below VQ_w2a.out b_w3)
  try clear P_w2a
  try clear T_w2a
  try clear Q_w2a
  try clear V_w2a
  try clear VQ_w2a
  try clear HB_w2a
  try clear b_w3
  clear hv_w2
  have h_Q := Q_w3.out
  have l_Qw3 := h_Q.lt
  have Qw3_0 := h_Q.cell 0; have Qw3_1 := h_Q.cell 1; have Qw3_2 := h_Q.cell 2; have Qw3_3 := h_Q.cell 3; have Qw3_4 := h_Q.cell 4; have Qw3_5 := h_Q.cell 5
  simp only [List.getElem?_cons_zero, List.getElem?_cons_succ] at Qw3_0 Qw3_1 Qw3_2 Qw3_3 Qw3_4 Qw3_5
  clear h_Q
  go_wp2_with fail
  refine (CS.out _ _ _ VQ_w3.out (rd_nil _)).mono ?_
  rintro en_w4 w4 ⟨rfl, b_w4⟩
  have HB_w4 := Lib.hid (bt HB_w3.out b_w4)
  have P_w4 := Lib.hid (P_w3.out.next b_w4)
  have T_w4 := Lib.hid (T_w3.out.next b_w4)
  have Q_w4 := Lib.hid (Q_w3.out.next b_w4)
  have V_w4 := Lib.hid (Rd.below V_w3.out b_w4)
  have VQ_w4 := Lib.hid (Rd.below VQ_w3.out b_w4)
  try clear l_Qw3
  try clear Qw3_0
  try clear Qw3_1
  try clear Qw3_2
  try clear Qw3_3
  try clear Qw3_4
  try clear Qw3_5
  try clear P_w3
  try clear T_w3
  try clear Q_w3
  try clear V_w3
  try clear VQ_w3
  try clear HB_w3
  try clear b_w4
  go_wp2
  go_ret
  exact ⟨by first | rfl | (simp; done), HB_w4.out⟩
set_option maxRecDepth 100000 in
set_option maxHeartbeats 4000000 in
theorem joins_yes (p : Ps) (d : Value) (l M : List Sp) (n u N k z K A B D F : Int) (I Wb : Bool) (w : World) (h : RdE elS w d l)
    (c1 : ∀ (d : Value) (w : World), RdE elS w d l → Calls Try.prog 20 #[aP p d, .int .i64 n, .agg #[.int .i64 u, .int .i64 N]] w (PassNQ (.slice none 0 0) p M K 0 w))
    (c2 : ∀ (d : Value) (w : World), RdE elS w d l → Calls Try.prog 11 #[aP p d, .int .i64 k, .int .i64 z] w (fun e w' => e = .returned (.tuple #[.bool Wb, .int .i64 0]) ∧ Below w.heap.size w w'))
    (c3 : ∀ (d : Value) (w : World), RdE elS w d M → Calls Try.prog 11 #[aP p d, .int .i64 k, .int .i64 z] w (fun e w' => e = .returned (.tuple #[.bool I, .int .i64 0]) ∧ Below w.heap.size w w'))
    (c4 : ∀ (d : Value) (w : World), RdE elS w d M → Calls Try.prog 17 #[aP p d] w (Sn.IntQ 0 w))
    (c5 : ∀ (d : Value) (w : World), RdE elS w d l → Calls Try.prog 22 #[d] w (fun e w' => e = .returned (.int .i64 A) ∧ Below w.heap.size w w'))
    (c6 : ∀ (d : Value) (w : World), RdE elS w d M → Calls Try.prog 22 #[d] w (fun e w' => e = .returned (.int .i64 B) ∧ Below w.heap.size w w'))
    (c7 : ∀ (d : Value) (w : World), RdE elS w d l → Calls Try.prog 23 #[aP p d] w (fun e w' => e = .returned (.int .i64 D) ∧ Below w.heap.size w w'))
    (hK : 1 ≤ K) (hS : IntKind.i64.wrap (A + K) = B) (hF : max n D = F) (hFK : IntKind.i64.wrap (F + K) = F + K)
    (hc : (Wb = true ∧ I = true) ∨ (Wb = false ∧ z < p.a ∧ I = false) ∨ (Wb = false ∧ p.a ≤ z ∧ p.b < z ∧ I = false) ∨ (Wb = false ∧ p.a ≤ z ∧ z ≤ p.b ∧ k < F ∧ I = false) ∨ (Wb = false ∧ p.a ≤ z ∧ z ≤ p.b ∧ F ≤ k ∧ F + K ≤ k ∧ I = false) ∨ (Wb = false ∧ p.a ≤ z ∧ z ≤ p.b ∧ F ≤ k ∧ k < F + K ∧ I = true)) :
    Calls Try.prog 5 #[aP p d, .int .i64 n, .agg #[.int .i64 u, .int .i64 N], .int .i64 k, .int .i64 z] w (BoolQ true w) := by
  have C1 := Lib.hid c1; have C2 := Lib.hid c2; have C3 := Lib.hid c3; have C4 := Lib.hid c4; have C5 := Lib.hid c5; have C6 := Lib.hid c6; have C7 := Lib.hid c7
  clear c1 c2 c3 c4 c5 c6 c7
  have CB := Lib.hid begun_any
  have hK1 : decide (K < 1) = false := decide_eq_false (by omega)
  have eB : (B == B) = true := by simp
  have eS : (p.ser == p.ser) = true := by simp
  have HC := Lib.hid hc
  clear hc
  obtain ⟨id, born, a, b, ser⟩ := p
  have HV0 := Lib.hid h
  obtain ⟨x, cap, rfl, _, _, _⟩ := h
  have V_w := Lib.hid (HV0.out)
  have HB_wa := Lib.hid ((br w).alloc (Nat.le_refl _) (.cells #[.int .i64 id, .int .i64 born, .int .i64 a, .int .i64 b, .int .i64 ser, .slice x l.length cap] 24))
  have V_wa := Lib.hid (Rd.below V_w.out ((br _).alloc (Nat.le_refl _) (.cells #[.int .i64 id, .int .i64 born, .int .i64 a, .int .i64 b, .int .i64 ser, .slice x l.length cap] 24)))
  have P_wa := Lib.hid (Box.new w 24 [.int .i64 id, .int .i64 born, .int .i64 a, .int .i64 b, .int .i64 ser, .slice x l.length cap])
  try clear P_w
  try clear V_w
  have HB_wb := Lib.hid (HB_wa.out.alloc HB_wa.out.size (.cells #[.int .i64 u, .int .i64 N] 26))
  have P_wb := Lib.hid (P_wa.out.alloc (.cells #[.int .i64 u, .int .i64 N] 26))
  have V_wb := Lib.hid (Rd.below V_wa.out ((br _).alloc (Nat.le_refl _) (.cells #[.int .i64 u, .int .i64 N] 26)))
  have hq := Box.new (w.alloc (.cells #[.int .i64 id, .int .i64 born, .int .i64 a, .int .i64 b, .int .i64 ser, .slice x l.length cap] 24)) 26 [.int .i64 u, .int .i64 N]
  rw [asz] at hq
  have T_wb := Lib.hid hq
  clear hq
  try clear P_wa
  try clear T_wa
  try clear V_wa
  try clear HB_wa
  go_enter Try.func5, Try.ntmps5
  go_wp2_with fail
  refine (C1.out _ _ V_wb.out).mono ?_
  rintro en_w2 w2 ⟨v_w2, rfl, hv_w2, _, b_w2⟩
  have HB_w2 := Lib.hid (bt HB_wb.out b_w2)
  have P_w2 := Lib.hid (P_wb.out.next b_w2)
  have T_w2 := Lib.hid (T_wb.out.next b_w2)
  have V_w2 := Lib.hid (Rd.below V_wb.out b_w2)
  try clear P_wb
  try clear T_wb
  try clear V_wb
  try clear HB_wb
  try clear b_w2
  clear C1
  obtain ⟨x_w2, c_w2, rfl⟩ : ∃ x c, v_w2 = .slice x M.length c := by obtain ⟨x, c, h0, _⟩ := hv_w2; exact ⟨x, c, h0⟩
  have HB_w2a := Lib.hid (HB_w2.out.alloc HB_w2.out.size (.cells #[.int .i64 id, .int .i64 born, .int .i64 a, .int .i64 b, .int .i64 ser, .slice x_w2 M.length c_w2] 24))
  have P_w2a := Lib.hid (P_w2.out.alloc (.cells #[.int .i64 id, .int .i64 born, .int .i64 a, .int .i64 b, .int .i64 ser, .slice x_w2 M.length c_w2] 24))
  have T_w2a := Lib.hid (T_w2.out.alloc (.cells #[.int .i64 id, .int .i64 born, .int .i64 a, .int .i64 b, .int .i64 ser, .slice x_w2 M.length c_w2] 24))
  have V_w2a := Lib.hid (Rd.below V_w2.out ((br _).alloc (Nat.le_refl _) (.cells #[.int .i64 id, .int .i64 born, .int .i64 a, .int .i64 b, .int .i64 ser, .slice x_w2 M.length c_w2] 24)))
  have VQ_w2a := Lib.hid (Rd.below hv_w2 ((br _).alloc (Nat.le_refl _) (.cells #[.int .i64 id, .int .i64 born, .int .i64 a, .int .i64 b, .int .i64 ser, .slice x_w2 M.length c_w2] 24)))
  have Q_w2a := Lib.hid (Box.new w2 24 [.int .i64 id, .int .i64 born, .int .i64 a, .int .i64 b, .int .i64 ser, .slice x_w2 M.length c_w2])
  try clear P_w2
  try clear T_w2
  try clear V_w2
  try clear HB_w2
  have h_P := P_w2a.out
  have l_Pw2a := h_P.lt
  have Pw2a_0 := h_P.cell 0; have Pw2a_1 := h_P.cell 1; have Pw2a_2 := h_P.cell 2; have Pw2a_3 := h_P.cell 3; have Pw2a_4 := h_P.cell 4; have Pw2a_5 := h_P.cell 5
  simp only [List.getElem?_cons_zero, List.getElem?_cons_succ] at Pw2a_0 Pw2a_1 Pw2a_2 Pw2a_3 Pw2a_4 Pw2a_5
  clear h_P
  go_wp2_with fail
  refine (CB.out _).mono ?_
  rintro en_w3 w3 ⟨rfl, b_w3⟩
  have HB_w3 := Lib.hid (bt HB_w2a.out b_w3)
  have P_w3 := Lib.hid (P_w2a.out.next b_w3)
  have T_w3 := Lib.hid (T_w2a.out.next b_w3)
  have Q_w3 := Lib.hid (Q_w2a.out.next b_w3)
  have V_w3 := Lib.hid (Rd.below V_w2a.out b_w3)
  have VQ_w3 := Lib.hid (Rd.below VQ_w2a.out b_w3)
  try clear l_Pw2a
  try clear Pw2a_0
  try clear Pw2a_1
  try clear Pw2a_2
  try clear Pw2a_3
  try clear Pw2a_4
  try clear Pw2a_5
  try clear P_w2a
  try clear T_w2a
  try clear Q_w2a
  try clear V_w2a
  try clear VQ_w2a
  try clear HB_w2a
  try clear b_w3
  clear hv_w2 CB
  have h_P := P_w3.out
  have l_Pw3 := h_P.lt
  have Pw3_0 := h_P.cell 0; have Pw3_1 := h_P.cell 1; have Pw3_2 := h_P.cell 2; have Pw3_3 := h_P.cell 3; have Pw3_4 := h_P.cell 4; have Pw3_5 := h_P.cell 5
  simp only [List.getElem?_cons_zero, List.getElem?_cons_succ] at Pw3_0 Pw3_1 Pw3_2 Pw3_3 Pw3_4 Pw3_5
  clear h_P
  have h_Q := Q_w3.out
  have l_Qw3 := h_Q.lt
  have Qw3_0 := h_Q.cell 0; have Qw3_1 := h_Q.cell 1; have Qw3_2 := h_Q.cell 2; have Qw3_3 := h_Q.cell 3; have Qw3_4 := h_Q.cell 4; have Qw3_5 := h_Q.cell 5
  simp only [List.getElem?_cons_zero, List.getElem?_cons_succ] at Qw3_0 Qw3_1 Qw3_2 Qw3_3 Qw3_4 Qw3_5
  clear h_Q
  have VQd := Lib.hid (rdE_dr (E := elS) VQ_w3.out); have Vd := Lib.hid (rdE_dr (E := elS) V_w3.out)
  go_wp2_with fail
  go_region_held3 (fun w' => w'.cell? ⟨w2.heap.size, 0, none⟩ = some (.int .i64 id) ∧ w'.cell? ⟨w2.heap.size, 1, none⟩ = some (.int .i64 born) ∧ w'.cell? ⟨w2.heap.size, 2, none⟩ = some (.int .i64 a) ∧ w'.cell? ⟨w2.heap.size, 3, none⟩ = some (.int .i64 b) ∧ w'.cell? ⟨w2.heap.size, 4, none⟩ = some (.int .i64 ser) ∧ w'.cell? ⟨w2.heap.size, 5, none⟩ = some (.slice x_w2 M.length c_w2) ∧ w'.cell? ⟨w.heap.size, 4, none⟩ = some (.int .i64 ser) ∧ w'.cell? ⟨w.heap.size, 5, none⟩ = some (.slice x l.length cap))
    (first | go_keep | (go_split_ands; (repeat' apply And.intro) <;> first | assumption | exact kp hb1 (by assumption) | exact kp hb2 (by assumption) | exact kp hb3 (by assumption)) | fail)
    (first
      | (go_at_call 22; (with_reducible refine (C6.out _ _ VQd.out).mono ?_); rintro en4 w4 ⟨rfl, hb1⟩; have B4 := Lib.hid (bd (br w3) hb1))
      | (go_at_call 22; (with_reducible refine (C5.out _ _ (Rd.below V_w3.out B4.out)).mono ?_); rintro en5 w5 ⟨rfl, hb2⟩; have B5 := Lib.hid (bt B4.out hb2))
      | (go_at_call 17; (refine (C4.out _ _ (Rd.below VQ_w3.out B5.out)).mono ?_); rintro en6 w6 ⟨rfl, hb3⟩; have b_w6 := bt B5.out hb3)
      | fail)
  clear C4 C5 C6 hb1 hb2 hb3 B4 B5
  have HB_w6 := Lib.hid (bt HB_w3.out b_w6)
  have P_w6 := Lib.hid (P_w3.out.next b_w6)
  have T_w6 := Lib.hid (T_w3.out.next b_w6)
  have Q_w6 := Lib.hid (Q_w3.out.next b_w6)
  have V_w6 := Lib.hid (Rd.below V_w3.out b_w6)
  have VQ_w6 := Lib.hid (Rd.below VQ_w3.out b_w6)
  try clear l_Pw3
  try clear Pw3_0
  try clear Pw3_1
  try clear Pw3_2
  try clear Pw3_3
  try clear Pw3_4
  try clear Pw3_5
  try clear l_Qw3
  try clear Qw3_0
  try clear Qw3_1
  try clear Qw3_2
  try clear Qw3_3
  try clear Qw3_4
  try clear Qw3_5
  try clear P_w3
  try clear T_w3
  try clear Q_w3
  try clear V_w3
  try clear VQ_w3
  try clear HB_w3
  try clear b_w6
  have h_P := P_w6.out
  have l_Pw6 := h_P.lt
  have Pw6_0 := h_P.cell 0; have Pw6_1 := h_P.cell 1; have Pw6_2 := h_P.cell 2; have Pw6_3 := h_P.cell 3; have Pw6_4 := h_P.cell 4; have Pw6_5 := h_P.cell 5
  simp only [List.getElem?_cons_zero, List.getElem?_cons_succ] at Pw6_0 Pw6_1 Pw6_2 Pw6_3 Pw6_4 Pw6_5
  clear h_P
  have h_Q := Q_w6.out
  have l_Qw6 := h_Q.lt
  have Qw6_0 := h_Q.cell 0; have Qw6_1 := h_Q.cell 1; have Qw6_2 := h_Q.cell 2; have Qw6_3 := h_Q.cell 3; have Qw6_4 := h_Q.cell 4; have Qw6_5 := h_Q.cell 5
  simp only [List.getElem?_cons_zero, List.getElem?_cons_succ] at Qw6_0 Qw6_1 Qw6_2 Qw6_3 Qw6_4 Qw6_5
  clear h_Q
  go_wp2_with fail
  refine (C7.out _ _ V_w6.out).mono ?_
  rintro en_w7 w7 ⟨rfl, b_w7⟩
  have HB_w7 := Lib.hid (bt HB_w6.out b_w7)
  have P_w7 := Lib.hid (P_w6.out.next b_w7)
  have T_w7 := Lib.hid (T_w6.out.next b_w7)
  have Q_w7 := Lib.hid (Q_w6.out.next b_w7)
  have V_w7 := Lib.hid (Rd.below V_w6.out b_w7)
  have VQ_w7 := Lib.hid (Rd.below VQ_w6.out b_w7)
  try clear l_Pw6
  try clear Pw6_0
  try clear Pw6_1
  try clear Pw6_2
  try clear Pw6_3
  try clear Pw6_4
  try clear Pw6_5
  try clear l_Qw6
  try clear Qw6_0
  try clear Qw6_1
  try clear Qw6_2
  try clear Qw6_3
  try clear Qw6_4
  try clear Qw6_5
  try clear P_w6
  try clear T_w6
  try clear Q_w6
  try clear V_w6
  try clear VQ_w6
  try clear HB_w6
  try clear b_w7
  clear C7
  have h_P := P_w7.out
  have l_Pw7 := h_P.lt
  have Pw7_0 := h_P.cell 0; have Pw7_1 := h_P.cell 1; have Pw7_2 := h_P.cell 2; have Pw7_3 := h_P.cell 3; have Pw7_4 := h_P.cell 4; have Pw7_5 := h_P.cell 5
  simp only [List.getElem?_cons_zero, List.getElem?_cons_succ] at Pw7_0 Pw7_1 Pw7_2 Pw7_3 Pw7_4 Pw7_5
  clear h_P
  have h_Q := Q_w7.out
  have l_Qw7 := h_Q.lt
  have Qw7_0 := h_Q.cell 0; have Qw7_1 := h_Q.cell 1; have Qw7_2 := h_Q.cell 2; have Qw7_3 := h_Q.cell 3; have Qw7_4 := h_Q.cell 4; have Qw7_5 := h_Q.cell 5
  simp only [List.getElem?_cons_zero, List.getElem?_cons_succ] at Qw7_0 Qw7_1 Qw7_2 Qw7_3 Qw7_4 Qw7_5
  clear h_Q
  go_wp2_with fail
  refine (C2.out _ _ V_w7.out).mono ?_
  rintro en_w8 w8 ⟨rfl, b_w8⟩
  have HB_w8 := Lib.hid (bt HB_w7.out b_w8)
  have P_w8 := Lib.hid (P_w7.out.next b_w8)
  have T_w8 := Lib.hid (T_w7.out.next b_w8)
  have Q_w8 := Lib.hid (Q_w7.out.next b_w8)
  have V_w8 := Lib.hid (Rd.below V_w7.out b_w8)
  have VQ_w8 := Lib.hid (Rd.below VQ_w7.out b_w8)
  try clear l_Pw7
  try clear Pw7_0
  try clear Pw7_1
  try clear Pw7_2
  try clear Pw7_3
  try clear Pw7_4
  try clear Pw7_5
  try clear l_Qw7
  try clear Qw7_0
  try clear Qw7_1
  try clear Qw7_2
  try clear Qw7_3
  try clear Qw7_4
  try clear Qw7_5
  try clear P_w7
  try clear T_w7
  try clear Q_w7
  try clear V_w7
  try clear VQ_w7
  try clear HB_w7
  try clear b_w8
  clear C2
  have h_P := P_w8.out
  have l_Pw8 := h_P.lt
  have Pw8_0 := h_P.cell 0; have Pw8_1 := h_P.cell 1; have Pw8_2 := h_P.cell 2; have Pw8_3 := h_P.cell 3; have Pw8_4 := h_P.cell 4; have Pw8_5 := h_P.cell 5
  simp only [List.getElem?_cons_zero, List.getElem?_cons_succ] at Pw8_0 Pw8_1 Pw8_2 Pw8_3 Pw8_4 Pw8_5
  clear h_P
  have h_Q := Q_w8.out
  have l_Qw8 := h_Q.lt
  have Qw8_0 := h_Q.cell 0; have Qw8_1 := h_Q.cell 1; have Qw8_2 := h_Q.cell 2; have Qw8_3 := h_Q.cell 3; have Qw8_4 := h_Q.cell 4; have Qw8_5 := h_Q.cell 5
  simp only [List.getElem?_cons_zero, List.getElem?_cons_succ] at Qw8_0 Qw8_1 Qw8_2 Qw8_3 Qw8_4 Qw8_5
  clear h_Q
  go_wp2_with fail
  refine (C3.out _ _ VQ_w8.out).mono ?_
  rintro en_w9 w9 ⟨rfl, b_w9⟩
  have HB_w9 := Lib.hid (bt HB_w8.out b_w9)
  have P_w9 := Lib.hid (P_w8.out.next b_w9)
  have T_w9 := Lib.hid (T_w8.out.next b_w9)
  have Q_w9 := Lib.hid (Q_w8.out.next b_w9)
  have V_w9 := Lib.hid (Rd.below V_w8.out b_w9)
  have VQ_w9 := Lib.hid (Rd.below VQ_w8.out b_w9)
  try clear l_Pw8
  try clear Pw8_0
  try clear Pw8_1
  try clear Pw8_2
  try clear Pw8_3
  try clear Pw8_4
  try clear Pw8_5
  try clear l_Qw8
  try clear Qw8_0
  try clear Qw8_1
  try clear Qw8_2
  try clear Qw8_3
  try clear Qw8_4
  try clear Qw8_5
  try clear P_w8
  try clear T_w8
  try clear Q_w8
  try clear V_w8
  try clear VQ_w8
  try clear HB_w8
  try clear b_w9
  clear C3
  have h_P := P_w9.out
  have l_Pw9 := h_P.lt
  have Pw9_0 := h_P.cell 0; have Pw9_1 := h_P.cell 1; have Pw9_2 := h_P.cell 2; have Pw9_3 := h_P.cell 3; have Pw9_4 := h_P.cell 4; have Pw9_5 := h_P.cell 5
  simp only [List.getElem?_cons_zero, List.getElem?_cons_succ] at Pw9_0 Pw9_1 Pw9_2 Pw9_3 Pw9_4 Pw9_5
  clear h_P
  have h_Q := Q_w9.out
  have l_Qw9 := h_Q.lt
  have Qw9_0 := h_Q.cell 0; have Qw9_1 := h_Q.cell 1; have Qw9_2 := h_Q.cell 2; have Qw9_3 := h_Q.cell 3; have Qw9_4 := h_Q.cell 4; have Qw9_5 := h_Q.cell 5
  simp only [List.getElem?_cons_zero, List.getElem?_cons_succ] at Qw9_0 Qw9_1 Qw9_2 Qw9_3 Qw9_4 Qw9_5
  clear h_Q
  have hc := HC.out
  try simp only at hc
  clear HC V_w9 VQ_w9 Q_w9 P_w9 T_w9
  rcases hc with ⟨rfl, rfl⟩ | ⟨rfl, h1, rfl⟩ | ⟨rfl, h1, h2, rfl⟩ | ⟨rfl, h1, h2, h3, rfl⟩ | ⟨rfl, h1, h2, h3, h4, rfl⟩ | ⟨rfl, h1, h2, h3, h4, rfl⟩
  all_goals
    go_wp2
    go_ret
    exact ⟨by first | rfl | (simp; done) | (simp; omega), HB_w9.out⟩
theorem joins_walk (p : Ps) (d : Value) (l : List Sp) (n u N k z : Int) (w : World) (h : RdE elS w d l) : Calls Try.prog 5 #[aP p d, .int .i64 n, aT u N, .int .i64 k, .int .i64 z] w (BoolQ true w) := by
  by_cases c : (renG p l n u N).2.2 = 0
  · obtain ⟨T, e1, g1, hD, b1, b2, b3, he, hb, g3⟩ := ren_yes c
    obtain ⟨_, hk, _⟩ := passE_ok.1 g1
    have hd1 := days_bd3 g1; have hd2 := days_bd3 g3
    have hdd := ren_days hk he b2 b1 b3 hb
    have hh := ren_has g1 g3 hb k z
    refine joins_yes p d l (bothR 0 l [(frm l n, T)]) n u N k z (T - frm l n) (days l) (days (bothR 0 l [(frm l n, T)])) (endD l) (frm l n) (rawB p (bothR 0 l [(frm l n, T)]) k z) (rawB p l k z) w h
      (fun d w h => by have := renew_any p d l n u N w h; rw [ren_eq, e1] at this; exact this)
      (fun d w h => by have := has_any p d l k z w h; rw [g1] at this; simpa using this)
      (fun d w h => by have := has_any p d (bothR 0 l [(frm l n, T)]) k z w h; rw [g3] at this; simpa using this)
      (fun d w h => by have := check_any p d (bothR 0 l [(frm l n, T)]) w h; rw [g3] at this; exact this)
      (fun d w h => daysOf_any d l w h ((chkS_ok l).1 (passE_ok.1 g1).2.1).2.1 (by have := ((chkS_ok l).1 (passE_ok.1 g1).2.1).1; omega))
      (fun d w h => daysOf_any d _ w h ((chkS_ok _).1 (passE_ok.1 g3).2.1).2.1 (by have := ((chkS_ok _).1 (passE_ok.1 g3).2.1).1; omega))
      (fun d w h => endR_any p d l w h)
      (by omega) (by rw [hdd]; exact IntWalk.i64_in _ (by omega)) rfl (IntWalk.i64_in _ (by omega)) ?_
    rw [hh]
    cases rawB p l k z with
    | true => exact .inl ⟨rfl, rfl⟩
    | false =>
      rw [Bool.false_or]
      by_cases h1 : p.a ≤ z
      case neg => exact .inr (.inl ⟨rfl, by omega, by rw [decide_eq_false h1]; rfl⟩)
      by_cases h2 : z ≤ p.b
      case neg => exact .inr (.inr (.inl ⟨rfl, h1, by omega, by rw [decide_eq_false h2, Bool.and_false]; rfl⟩))
      rw [decide_eq_true h1, decide_eq_true h2]
      by_cases h3 : frm l n ≤ k
      case neg => exact .inr (.inr (.inr (.inl ⟨rfl, h1, h2, by omega, by rw [decide_eq_false h3]; rfl⟩)))
      rw [decide_eq_true h3]
      by_cases h4 : k < T
      case neg => exact .inr (.inr (.inr (.inr (.inl ⟨rfl, h1, h2, h3, by omega, by rw [decide_eq_false h4]; rfl⟩))))
      exact .inr (.inr (.inr (.inr (.inr ⟨rfl, h1, h2, h3, by omega, by rw [decide_eq_true h4]; rfl⟩))))
  · exact joins_no p d l n u N k z _ c w h (fun d w h => by have := renew_any p d l n u N w h; rw [ren_eq, ren_no c] at this; exact this)
end Pa
end Go.Proofs.Ytcgncmlldjblmaa
