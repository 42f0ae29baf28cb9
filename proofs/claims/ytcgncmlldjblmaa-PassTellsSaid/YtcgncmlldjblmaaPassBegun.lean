/- Passes: what must be in any case. (gen_pass3.py) -/
import Derived.Test.YtcgncmlldjblmaaPassRenew
import Derived.Test.YtcgncmlldjblmaaPassPlain2
import Derived.Deep.RegionHeld3
set_option linter.unusedSimpArgs false
set_option linter.unusedVariables false
namespace Go.Proofs.Ytcgncmlldjblmaa
open Go.RowKit
namespace Pa
open Dt Sn
theorem f1 : newE 7 690000 1 3 700000 2 1 = 0 := by kernel_rfl
theorem f2 : oneL 700000 2 1 = [(700000, 700007)] := by kernel_rfl
theorem f3 : renF ⟨7, 690000, 1, 3, 1⟩ [(700000, 700007)] 700003 2 1 = ((⟨7, 690000, 1, 3, 1⟩, [(700000, 700014)]), 7, 0) := by kernel_rfl
theorem f4 : renF ⟨7, 690000, 1, 3, 1⟩ [(700000, 700007)] 700010 2 1 = ((⟨7, 690000, 1, 3, 1⟩, [(700000, 700007), (700010, 700017)]), 7, 0) := by kernel_rfl
theorem f5 : cutF ⟨7, 690000, 1, 3, 1⟩ [(700000, 700014)] 700005 = ((⟨7, 690000, 1, 3, 1⟩, [(700000, 700005)]), 9, 0) := by kernel_rfl
theorem f6 : repE ⟨7, 690000, 1, 3, 1⟩ [(700000, 700005)] = 0 := by kernel_rfl
theorem f7 : passE ⟨7, 690000, 1, 3, 2⟩ [(700000, 700005)] = 0 := by kernel_rfl
theorem f8 : rawB ⟨7, 690000, 1, 3, 2⟩ [(700000, 700005)] 700004 3 = true := by kernel_rfl
theorem f9 : rawB ⟨7, 690000, 1, 3, 2⟩ [(700000, 700005)] 700004 4 = false := by kernel_rfl
theorem f10 : passE ⟨0, 0, 0, 0, 0⟩ [] = 3 := by kernel_rfl
abbrev PQ (p : Ps) (l : List Sp) (w : World) (e : Ending) (w' : World) : Prop := ∃ v, e = .returned (.tuple #[aP p v, .int .i64 0]) ∧ RdE elS w' v l ∧ Below w.heap.size w w'
abbrev PNQ (p : Ps) (l : List Sp) (n : Int) (w : World) (e : Ending) (w' : World) : Prop := ∃ v, e = .returned (.tuple #[aP p v, .int .i64 n, .int .i64 0]) ∧ RdE elS w' v l ∧ Below w.heap.size w w'
theorem pq {p q : Ps} {d : Value} {l : List Sp} {er : Int} {w : World} {e : Ending} {w' : World} (h : PassQ d p l er w e w') (h0 : er = 0) : PQ p l w e w' := by
  subst h0; obtain ⟨v, h1, h2, _, h3⟩ := h; exact ⟨v, h1, h2, h3⟩
theorem k1 (w : World) : Calls Try.prog 8 #[.int .i64 7, .int .i64 690000, .int .i64 1, .int .i64 3, .int .i64 700000, .agg #[.int .i64 2, .int .i64 1]] w (PQ ⟨7, 690000, 1, 3, 1⟩ [(700000, 700007)] w) := by
  have h := new_any 7 690000 1 3 700000 2 1 w
  rw [f1, f2, if_pos rfl, if_pos rfl] at h
  exact h.mono (fun e w' q => pq (q := p0) q rfl)
theorem kr (p : Ps) (l : List Sp) (n : Int) (q : Ps) (m : List Sp) (k : Int) (hf : renF p l n 2 1 = ((q, m), k, 0)) (d : Value) (w : World) (h : RdE elS w d l) : Calls Try.prog 20 #[aP p d, .int .i64 n, .agg #[.int .i64 2, .int .i64 1]] w (PNQ q m k w) := by
  have h := renew_any p d l n 2 1 w h
  rw [hf] at h
  exact h.mono (fun e w' q => by obtain ⟨v, h1, h2, _, h3⟩ := q; exact ⟨v, h1, h2, h3⟩)
theorem kc' (p : Ps) (l : List Sp) (n : Int) (q : Ps) (m : List Sp) (k : Int) (hf : cutF p l n = ((q, m), k, 0)) (d : Value) (w : World) (h : RdE elS w d l) : Calls Try.prog 9 #[aP p d, .int .i64 n] w (PNQ q m k w) := by
  have h := cut_any p d l n w h
  rw [hf] at h
  exact h.mono (fun e w' q => by obtain ⟨v, h1, h2, _, h3⟩ := q; exact ⟨v, h1, h2, h3⟩)
theorem kp' (d : Value) (w : World) (h : RdE elS w d [(700000, 700005)]) : Calls Try.prog 10 #[aP ⟨7, 690000, 1, 3, 1⟩ d] w (PQ ⟨7, 690000, 1, 3, 2⟩ [(700000, 700005)] w) := by
  have h := replace_any ⟨7, 690000, 1, 3, 1⟩ d [(700000, 700005)] w h
  rw [f6, if_pos rfl, if_pos rfl] at h
  exact h.mono (fun e w' q => pq (q := p0) q rfl)
theorem kh (n z : Int) (r : Bool) (hr : rawB ⟨7, 690000, 1, 3, 2⟩ [(700000, 700005)] n z = r) (d : Value) (w : World) (h : RdE elS w d [(700000, 700005)]) : Calls Try.prog 11 #[aP ⟨7, 690000, 1, 3, 2⟩ d, .int .i64 n, .int .i64 z] w (fun e w' => e = .returned (.tuple #[.bool r, .int .i64 0]) ∧ Below w.heap.size w w') := by
  have h := has_any ⟨7, 690000, 1, 3, 2⟩ d [(700000, 700005)] n z w h
  rw [f7, hr] at h
  simpa using h
theorem kz (w : World) : Calls Try.prog 17 #[.agg #[.int .i64 0, .int .i64 0, .int .i64 0, .int .i64 0, .int .i64 0, .slice none 0 0]] w (Sn.IntQ 3 w) := by
  have h := check_any ⟨0, 0, 0, 0, 0⟩ (.slice none 0 0) [] w (rd_nil w)
  rw [f10] at h
  exact h
set_option maxHeartbeats 1000000 in
theorem span_p (a b : Int) (w : World) : Calls Try.prog 37 #[.int .i64 a, .int .i64 b] w fun e w' => e = .returned (aS (a, b)) ∧ Below w.heap.size w w' := by
  go_enter Try.func37, Try.ntmps37
  go_wp2
  refine bodyPost_ret (v := .agg #[.int .i64 a, .int .i64 b]) (by simp [results, Try.results37, go_sem]) rfl ⟨rfl, ?_⟩
  exact (br _).alloc (Nat.le_refl _) _
theorem list_p (v : Value) (w : World) : Calls Try.prog 36 #[v] w fun e w' => e = .returned v ∧ w = w' := by
  go_enter Try.func36, Try.ntmps36
  go_wp2
  go_ret
  exact ⟨rfl, rfl⟩
set_option maxHeartbeats 2000000 in
theorem wren_any (w : World) : Calls Try.prog 34 #[] w (fun e w' => ∃ v, e = .returned (aP ⟨7, 690000, 1, 3, 1⟩ v) ∧ RdE elS w' v [(700000, 700007)] ∧ Below w.heap.size w w') := by
  have CS := Lib.hid span_p
  have CL := Lib.hid list_p
  have HA := Lib.hid ((br w).alloc (Nat.le_refl _) (.cells #[.int .i64 0, .int .i64 0, .int .i64 0, .int .i64 0, .int .i64 0, .slice none 0 0] 24))
  have HY := Lib.hid (Box.new w 24 [.int .i64 0, .int .i64 0, .int .i64 0, .int .i64 0, .int .i64 0, .slice none 0 0])
  go_enter Try.func34, Try.ntmps34
  go_wp2_with fail
  refine (CS.out _ _ _).mono ?_
  rintro en w2 ⟨rfl, b2⟩
  have HB := Lib.hid (bt HA.out b2)
  have hy := HY.out.next b2
  have hlt := hy.lt
  have hl := rd_lit elS [(700000, 700007)] w2 51 (0, 0) w2.heap.size rfl (by simp [maxLen])
  clear b2 HA HY
  have z0 := hy.cell 0; have z1 := hy.cell 1; have z2 := hy.cell 2; have z3 := hy.cell 3; have z4 := hy.cell 4; have z5 := hy.cell 5
  simp only [List.getElem?_cons_zero, List.getElem?_cons_succ] at z0 z1 z2 z3 z4 z5
  have f0 := hy.froz 0; have f1 := hy.froz 1; have f2 := hy.froz 2; have f3 := hy.froz 3; have f4 := hy.froz 4; have f5 := hy.froz 5
  have HY2 := Lib.hid hy
  have HL := Lib.hid hl
  clear hy hl
  go_wp2_with fail
  refine (CL.out _ _).mono ?_
  rintro en w3 ⟨rfl, rfl⟩
  have HY3 := Lib.hid (HY2.out.alloc (.cells #[.int .i64 700000, .int .i64 700007] 51))
  have HB3 := Lib.hid (HB.out.alloc HB.out.size (.cells #[.int .i64 700000, .int .i64 700007] 51))
  clear CS CL
  go_wp2
  have P := Pb.put HY2.out ⟨7, 690000, 1, 3, 1⟩ (.slice (some ⟨w2.heap.size, 0, none⟩) 1 1)
  have Q := below6 HB.out (b := w.heap.size) (Nat.le_refl _) (.int .i64 7) (.int .i64 690000) (.int .i64 1) (.int .i64 3) (.int .i64 1) ((.slice (some ⟨w2.heap.size, 0, none⟩) 1 1))
  have Z : ((((((w2.setCell ⟨w.heap.size, 0, none⟩ (.int .i64 7)).setCell ⟨w.heap.size, 1, none⟩ (.int .i64 690000)).setCell ⟨w.heap.size, 2, none⟩ (.int .i64 1)).setCell ⟨w.heap.size, 3, none⟩ (.int .i64 3)).setCell ⟨w.heap.size, 4, none⟩ (.int .i64 1)).setCell ⟨w.heap.size, 5, none⟩ ((.slice (some ⟨w2.heap.size, 0, none⟩) 1 1))).heap.size = w2.heap.size := by simp
  generalize (((((w2.setCell ⟨w.heap.size, 0, none⟩ (.int .i64 7)).setCell ⟨w.heap.size, 1, none⟩ (.int .i64 690000)).setCell ⟨w.heap.size, 2, none⟩ (.int .i64 1)).setCell ⟨w.heap.size, 3, none⟩ (.int .i64 3)).setCell ⟨w.heap.size, 4, none⟩ (.int .i64 1)).setCell ⟨w.heap.size, 5, none⟩ ((.slice (some ⟨w2.heap.size, 0, none⟩) 1 1)) = W2 at P Q Z ⊢
  have P2 := Box.alloc P (.cells #[.int .i64 700000, .int .i64 700007] 51)
  have y0 := P2.cell 0; have y1 := P2.cell 1; have y2 := P2.cell 2; have y3 := P2.cell 3; have y4 := P2.cell 4; have y5 := P2.cell 5
  simp only [List.getElem?_cons_zero, List.getElem?_cons_succ] at y0 y1 y2 y3 y4 y5
  have HR := Lib.hid (rd_lit elS [(700000, 700007)] W2 51 (0, 0) w2.heap.size Z (by simp [maxLen]))
  refine bodyPost_ret (v := aP ⟨7, 690000, 1, 3, 1⟩ (.slice (some ⟨w2.heap.size, 0, none⟩) 1 1)) (by simp [results, Try.results34, go_sem, y0, y1, y2, y3, y4, y5]) rfl ⟨_, rfl, HR.out, Q.alloc Q.size _⟩
set_option maxRecDepth 100000 in
set_option maxHeartbeats 16000000 in
theorem begun_any (w : World) : Calls Try.prog 16 #[] w (BoolQ true w) := by
  have K1 := Lib.hid k1
  have K2 := Lib.hid (kr _ _ _ _ _ _ f3)
  have K3 := Lib.hid (kr _ _ _ _ _ _ f4)
  have K4 := Lib.hid (kc' _ _ _ _ _ _ f5)
  have K5 := Lib.hid kp'
  have K6 := Lib.hid (kh _ _ _ f8)
  have K7 := Lib.hid (kh _ _ _ f9)
  have K8 := Lib.hid kz
  have KW := Lib.hid wren_any
  have KS := Lib.hid span_p
  have KL := Lib.hid list_p
  have SP := Lib.hid (same_yes ⟨7, 690000, 1, 3, 1⟩)
  have SS := Lib.hid (fun v u w h g => sameS_any v u [(700000, 700014)] [(700000, 700014)] w h g)
  unfold SameSQ at SS
  simp only [decide_true] at SS
  have HB_w := Lib.hid ((br w).alloc (Nat.le_refl _) (.cells #[.int .i64 2, .int .i64 1] 26))
  have T_w := Lib.hid (Box.new w 26 [.int .i64 2, .int .i64 1])
  go_enter Try.func16, Try.ntmps16
  go_wp2_with fail
  refine (K1.out _).mono ?_
  rintro en_w2 w2 ⟨v_w2, rfl, hv_w2, b_w2⟩
  have HB_w2 := Lib.hid (bt HB_w.out b_w2)
  have T_w2 := Lib.hid (T_w.out.next b_w2)
  have hv_w2 := hv_w2
  obtain ⟨x_w2, c_w2, rfl⟩ : ∃ x c, v_w2 = .slice x 1 c := by obtain ⟨x, c, h0, _⟩ := hv_w2; exact ⟨x, c, h0⟩
  have HB_w2a := Lib.hid (HB_w2.out.alloc HB_w2.out.size (.cells #[.int .i64 7, .int .i64 690000, .int .i64 1, .int .i64 3, .int .i64 1, .slice x_w2 1 c_w2] 24))
  have T_w2a := Lib.hid (T_w2.out.alloc (.cells #[.int .i64 7, .int .i64 690000, .int .i64 1, .int .i64 3, .int .i64 1, .slice x_w2 1 c_w2] 24))
  have P_w2a := Lib.hid (Box.new w2 24 [.int .i64 7, .int .i64 690000, .int .i64 1, .int .i64 3, .int .i64 1, .slice x_w2 1 c_w2])
  have VP_w2a := Lib.hid (Rd.below hv_w2 ((br _).alloc (Nat.le_refl _) (.cells #[.int .i64 7, .int .i64 690000, .int .i64 1, .int .i64 3, .int .i64 1, .slice x_w2 1 c_w2] 24)))
  clear hv_w2 b_w2
  have h_T := T_w2.out
  have l_T_w2 := h_T.lt
  have Tw2_0 := h_T.cell 0; have Tw2_1 := h_T.cell 1
  simp only [List.getElem?_cons_zero, List.getElem?_cons_succ] at Tw2_0 Tw2_1
  clear h_T
  go_wp2_with fail
  refine (K2.out _ _ VP_w2a.out).mono ?_
  rintro en_w3 w3 ⟨v_w3, rfl, hv_w3, b_w3⟩
  have HB_w3 := Lib.hid (bt HB_w2a.out b_w3)
  have T_w3 := Lib.hid (T_w2a.out.next b_w3)
  have P_w3 := Lib.hid (P_w2a.out.next b_w3)
  have VP_w3 := Lib.hid (Rd.below VP_w2a.out b_w3)
  have hv_w3 := hv_w3
  obtain ⟨x_w3, c_w3, rfl⟩ : ∃ x c, v_w3 = .slice x 1 c := by obtain ⟨x, c, h0, _⟩ := hv_w3; exact ⟨x, c, h0⟩
  have HB_w3a := Lib.hid (HB_w3.out.alloc HB_w3.out.size (.cells #[.int .i64 7, .int .i64 690000, .int .i64 1, .int .i64 3, .int .i64 1, .slice x_w3 1 c_w3] 24))
  have T_w3a := Lib.hid (T_w3.out.alloc (.cells #[.int .i64 7, .int .i64 690000, .int .i64 1, .int .i64 3, .int .i64 1, .slice x_w3 1 c_w3] 24))
  have P_w3a := Lib.hid (P_w3.out.alloc (.cells #[.int .i64 7, .int .i64 690000, .int .i64 1, .int .i64 3, .int .i64 1, .slice x_w3 1 c_w3] 24))
  have VP_w3a := Lib.hid (Rd.below VP_w3.out ((br _).alloc (Nat.le_refl _) (.cells #[.int .i64 7, .int .i64 690000, .int .i64 1, .int .i64 3, .int .i64 1, .slice x_w3 1 c_w3] 24)))
  have Q_w3a := Lib.hid (Box.new w3 24 [.int .i64 7, .int .i64 690000, .int .i64 1, .int .i64 3, .int .i64 1, .slice x_w3 1 c_w3])
  have VQ_w3a := Lib.hid (Rd.below hv_w3 ((br _).alloc (Nat.le_refl _) (.cells #[.int .i64 7, .int .i64 690000, .int .i64 1, .int .i64 3, .int .i64 1, .slice x_w3 1 c_w3] 24)))
  clear hv_w3 b_w3
  have h_T := T_w3.out
  have l_T_w3 := h_T.lt
  have Tw3_0 := h_T.cell 0; have Tw3_1 := h_T.cell 1
  simp only [List.getElem?_cons_zero, List.getElem?_cons_succ] at Tw3_0 Tw3_1
  clear h_T
  have h_P := P_w3.out
  have l_P_w3 := h_P.lt
  have Pw3_0 := h_P.cell 0; have Pw3_1 := h_P.cell 1; have Pw3_2 := h_P.cell 2; have Pw3_3 := h_P.cell 3; have Pw3_4 := h_P.cell 4; have Pw3_5 := h_P.cell 5
  simp only [List.getElem?_cons_zero, List.getElem?_cons_succ] at Pw3_0 Pw3_1 Pw3_2 Pw3_3 Pw3_4 Pw3_5
  clear h_P
  go_wp2_with fail
  refine (K3.out _ _ VP_w3a.out).mono ?_
  rintro en_w4 w4 ⟨v_w4, rfl, hv_w4, b_w4⟩
  have HB_w4 := Lib.hid (bt HB_w3a.out b_w4)
  have T_w4 := Lib.hid (T_w3a.out.next b_w4)
  have P_w4 := Lib.hid (P_w3a.out.next b_w4)
  have Q_w4 := Lib.hid (Q_w3a.out.next b_w4)
  have VP_w4 := Lib.hid (Rd.below VP_w3a.out b_w4)
  have VQ_w4 := Lib.hid (Rd.below VQ_w3a.out b_w4)
  have hv_w4 := hv_w4
  obtain ⟨x_w4, c_w4, rfl⟩ : ∃ x c, v_w4 = .slice x 2 c := by obtain ⟨x, c, h0, _⟩ := hv_w4; exact ⟨x, c, h0⟩
  have HB_w4a := Lib.hid (HB_w4.out.alloc HB_w4.out.size (.cells #[.int .i64 7, .int .i64 690000, .int .i64 1, .int .i64 3, .int .i64 1, .slice x_w4 2 c_w4] 24))
  have T_w4a := Lib.hid (T_w4.out.alloc (.cells #[.int .i64 7, .int .i64 690000, .int .i64 1, .int .i64 3, .int .i64 1, .slice x_w4 2 c_w4] 24))
  have P_w4a := Lib.hid (P_w4.out.alloc (.cells #[.int .i64 7, .int .i64 690000, .int .i64 1, .int .i64 3, .int .i64 1, .slice x_w4 2 c_w4] 24))
  have Q_w4a := Lib.hid (Q_w4.out.alloc (.cells #[.int .i64 7, .int .i64 690000, .int .i64 1, .int .i64 3, .int .i64 1, .slice x_w4 2 c_w4] 24))
  have VP_w4a := Lib.hid (Rd.below VP_w4.out ((br _).alloc (Nat.le_refl _) (.cells #[.int .i64 7, .int .i64 690000, .int .i64 1, .int .i64 3, .int .i64 1, .slice x_w4 2 c_w4] 24)))
  have VQ_w4a := Lib.hid (Rd.below VQ_w4.out ((br _).alloc (Nat.le_refl _) (.cells #[.int .i64 7, .int .i64 690000, .int .i64 1, .int .i64 3, .int .i64 1, .slice x_w4 2 c_w4] 24)))
  have R_w4a := Lib.hid (Box.new w4 24 [.int .i64 7, .int .i64 690000, .int .i64 1, .int .i64 3, .int .i64 1, .slice x_w4 2 c_w4])
  have VR_w4a := Lib.hid (Rd.below hv_w4 ((br _).alloc (Nat.le_refl _) (.cells #[.int .i64 7, .int .i64 690000, .int .i64 1, .int .i64 3, .int .i64 1, .slice x_w4 2 c_w4] 24)))
  clear hv_w4 b_w4
  have h_T := T_w4.out
  have l_T_w4 := h_T.lt
  have Tw4_0 := h_T.cell 0; have Tw4_1 := h_T.cell 1
  simp only [List.getElem?_cons_zero, List.getElem?_cons_succ] at Tw4_0 Tw4_1
  clear h_T
  have h_P := P_w4.out
  have l_P_w4 := h_P.lt
  have Pw4_0 := h_P.cell 0; have Pw4_1 := h_P.cell 1; have Pw4_2 := h_P.cell 2; have Pw4_3 := h_P.cell 3; have Pw4_4 := h_P.cell 4; have Pw4_5 := h_P.cell 5
  simp only [List.getElem?_cons_zero, List.getElem?_cons_succ] at Pw4_0 Pw4_1 Pw4_2 Pw4_3 Pw4_4 Pw4_5
  clear h_P
  have h_Q := Q_w4.out
  have l_Q_w4 := h_Q.lt
  have Qw4_0 := h_Q.cell 0; have Qw4_1 := h_Q.cell 1; have Qw4_2 := h_Q.cell 2; have Qw4_3 := h_Q.cell 3; have Qw4_4 := h_Q.cell 4; have Qw4_5 := h_Q.cell 5
  simp only [List.getElem?_cons_zero, List.getElem?_cons_succ] at Qw4_0 Qw4_1 Qw4_2 Qw4_3 Qw4_4 Qw4_5
  clear h_Q
  go_wp2_with fail
  refine (K4.out _ _ VQ_w4a.out).mono ?_
  rintro en_w5 w5 ⟨v_w5, rfl, hv_w5, b_w5⟩
  have HB_w5 := Lib.hid (bt HB_w4a.out b_w5)
  have T_w5 := Lib.hid (T_w4a.out.next b_w5)
  have P_w5 := Lib.hid (P_w4a.out.next b_w5)
  have Q_w5 := Lib.hid (Q_w4a.out.next b_w5)
  have R_w5 := Lib.hid (R_w4a.out.next b_w5)
  have VP_w5 := Lib.hid (Rd.below VP_w4a.out b_w5)
  have VQ_w5 := Lib.hid (Rd.below VQ_w4a.out b_w5)
  have VR_w5 := Lib.hid (Rd.below VR_w4a.out b_w5)
  have hv_w5 := hv_w5
  obtain ⟨x_w5, c_w5, rfl⟩ : ∃ x c, v_w5 = .slice x 1 c := by obtain ⟨x, c, h0, _⟩ := hv_w5; exact ⟨x, c, h0⟩
  have HB_w5a := Lib.hid (HB_w5.out.alloc HB_w5.out.size (.cells #[.int .i64 7, .int .i64 690000, .int .i64 1, .int .i64 3, .int .i64 1, .slice x_w5 1 c_w5] 24))
  have T_w5a := Lib.hid (T_w5.out.alloc (.cells #[.int .i64 7, .int .i64 690000, .int .i64 1, .int .i64 3, .int .i64 1, .slice x_w5 1 c_w5] 24))
  have P_w5a := Lib.hid (P_w5.out.alloc (.cells #[.int .i64 7, .int .i64 690000, .int .i64 1, .int .i64 3, .int .i64 1, .slice x_w5 1 c_w5] 24))
  have Q_w5a := Lib.hid (Q_w5.out.alloc (.cells #[.int .i64 7, .int .i64 690000, .int .i64 1, .int .i64 3, .int .i64 1, .slice x_w5 1 c_w5] 24))
  have R_w5a := Lib.hid (R_w5.out.alloc (.cells #[.int .i64 7, .int .i64 690000, .int .i64 1, .int .i64 3, .int .i64 1, .slice x_w5 1 c_w5] 24))
  have VP_w5a := Lib.hid (Rd.below VP_w5.out ((br _).alloc (Nat.le_refl _) (.cells #[.int .i64 7, .int .i64 690000, .int .i64 1, .int .i64 3, .int .i64 1, .slice x_w5 1 c_w5] 24)))
  have VQ_w5a := Lib.hid (Rd.below VQ_w5.out ((br _).alloc (Nat.le_refl _) (.cells #[.int .i64 7, .int .i64 690000, .int .i64 1, .int .i64 3, .int .i64 1, .slice x_w5 1 c_w5] 24)))
  have VR_w5a := Lib.hid (Rd.below VR_w5.out ((br _).alloc (Nat.le_refl _) (.cells #[.int .i64 7, .int .i64 690000, .int .i64 1, .int .i64 3, .int .i64 1, .slice x_w5 1 c_w5] 24)))
  have S_w5a := Lib.hid (Box.new w5 24 [.int .i64 7, .int .i64 690000, .int .i64 1, .int .i64 3, .int .i64 1, .slice x_w5 1 c_w5])
  have VS_w5a := Lib.hid (Rd.below hv_w5 ((br _).alloc (Nat.le_refl _) (.cells #[.int .i64 7, .int .i64 690000, .int .i64 1, .int .i64 3, .int .i64 1, .slice x_w5 1 c_w5] 24)))
  clear hv_w5 b_w5
  have h_T := T_w5.out
  have l_T_w5 := h_T.lt
  have Tw5_0 := h_T.cell 0; have Tw5_1 := h_T.cell 1
  simp only [List.getElem?_cons_zero, List.getElem?_cons_succ] at Tw5_0 Tw5_1
  clear h_T
  have h_P := P_w5.out
  have l_P_w5 := h_P.lt
  have Pw5_0 := h_P.cell 0; have Pw5_1 := h_P.cell 1; have Pw5_2 := h_P.cell 2; have Pw5_3 := h_P.cell 3; have Pw5_4 := h_P.cell 4; have Pw5_5 := h_P.cell 5
  simp only [List.getElem?_cons_zero, List.getElem?_cons_succ] at Pw5_0 Pw5_1 Pw5_2 Pw5_3 Pw5_4 Pw5_5
  clear h_P
  have h_Q := Q_w5.out
  have l_Q_w5 := h_Q.lt
  have Qw5_0 := h_Q.cell 0; have Qw5_1 := h_Q.cell 1; have Qw5_2 := h_Q.cell 2; have Qw5_3 := h_Q.cell 3; have Qw5_4 := h_Q.cell 4; have Qw5_5 := h_Q.cell 5
  simp only [List.getElem?_cons_zero, List.getElem?_cons_succ] at Qw5_0 Qw5_1 Qw5_2 Qw5_3 Qw5_4 Qw5_5
  clear h_Q
  have h_R := R_w5.out
  have l_R_w5 := h_R.lt
  have Rw5_0 := h_R.cell 0; have Rw5_1 := h_R.cell 1; have Rw5_2 := h_R.cell 2; have Rw5_3 := h_R.cell 3; have Rw5_4 := h_R.cell 4; have Rw5_5 := h_R.cell 5
  simp only [List.getElem?_cons_zero, List.getElem?_cons_succ] at Rw5_0 Rw5_1 Rw5_2 Rw5_3 Rw5_4 Rw5_5
  clear h_R
  go_wp2_with fail
  refine (K5.out _ _ VS_w5a.out).mono ?_
  rintro en_w6 w6 ⟨v_w6, rfl, hv_w6, b_w6⟩
  have HB_w6 := Lib.hid (bt HB_w5a.out b_w6)
  have T_w6 := Lib.hid (T_w5a.out.next b_w6)
  have P_w6 := Lib.hid (P_w5a.out.next b_w6)
  have Q_w6 := Lib.hid (Q_w5a.out.next b_w6)
  have R_w6 := Lib.hid (R_w5a.out.next b_w6)
  have S_w6 := Lib.hid (S_w5a.out.next b_w6)
  have VP_w6 := Lib.hid (Rd.below VP_w5a.out b_w6)
  have VQ_w6 := Lib.hid (Rd.below VQ_w5a.out b_w6)
  have VR_w6 := Lib.hid (Rd.below VR_w5a.out b_w6)
  have VS_w6 := Lib.hid (Rd.below VS_w5a.out b_w6)
  have hv_w6 := hv_w6
  obtain ⟨x_w6, c_w6, rfl⟩ : ∃ x c, v_w6 = .slice x 1 c := by obtain ⟨x, c, h0, _⟩ := hv_w6; exact ⟨x, c, h0⟩
  have HB_w6a := Lib.hid (HB_w6.out.alloc HB_w6.out.size (.cells #[.int .i64 7, .int .i64 690000, .int .i64 1, .int .i64 3, .int .i64 2, .slice x_w6 1 c_w6] 24))
  have T_w6a := Lib.hid (T_w6.out.alloc (.cells #[.int .i64 7, .int .i64 690000, .int .i64 1, .int .i64 3, .int .i64 2, .slice x_w6 1 c_w6] 24))
  have P_w6a := Lib.hid (P_w6.out.alloc (.cells #[.int .i64 7, .int .i64 690000, .int .i64 1, .int .i64 3, .int .i64 2, .slice x_w6 1 c_w6] 24))
  have Q_w6a := Lib.hid (Q_w6.out.alloc (.cells #[.int .i64 7, .int .i64 690000, .int .i64 1, .int .i64 3, .int .i64 2, .slice x_w6 1 c_w6] 24))
  have R_w6a := Lib.hid (R_w6.out.alloc (.cells #[.int .i64 7, .int .i64 690000, .int .i64 1, .int .i64 3, .int .i64 2, .slice x_w6 1 c_w6] 24))
  have S_w6a := Lib.hid (S_w6.out.alloc (.cells #[.int .i64 7, .int .i64 690000, .int .i64 1, .int .i64 3, .int .i64 2, .slice x_w6 1 c_w6] 24))
  have VP_w6a := Lib.hid (Rd.below VP_w6.out ((br _).alloc (Nat.le_refl _) (.cells #[.int .i64 7, .int .i64 690000, .int .i64 1, .int .i64 3, .int .i64 2, .slice x_w6 1 c_w6] 24)))
  have VQ_w6a := Lib.hid (Rd.below VQ_w6.out ((br _).alloc (Nat.le_refl _) (.cells #[.int .i64 7, .int .i64 690000, .int .i64 1, .int .i64 3, .int .i64 2, .slice x_w6 1 c_w6] 24)))
  have VR_w6a := Lib.hid (Rd.below VR_w6.out ((br _).alloc (Nat.le_refl _) (.cells #[.int .i64 7, .int .i64 690000, .int .i64 1, .int .i64 3, .int .i64 2, .slice x_w6 1 c_w6] 24)))
  have VS_w6a := Lib.hid (Rd.below VS_w6.out ((br _).alloc (Nat.le_refl _) (.cells #[.int .i64 7, .int .i64 690000, .int .i64 1, .int .i64 3, .int .i64 2, .slice x_w6 1 c_w6] 24)))
  have U_w6a := Lib.hid (Box.new w6 24 [.int .i64 7, .int .i64 690000, .int .i64 1, .int .i64 3, .int .i64 2, .slice x_w6 1 c_w6])
  have VU_w6a := Lib.hid (Rd.below hv_w6 ((br _).alloc (Nat.le_refl _) (.cells #[.int .i64 7, .int .i64 690000, .int .i64 1, .int .i64 3, .int .i64 2, .slice x_w6 1 c_w6] 24)))
  clear hv_w6 b_w6
  have h_T := T_w6.out
  have l_T_w6 := h_T.lt
  have Tw6_0 := h_T.cell 0; have Tw6_1 := h_T.cell 1
  simp only [List.getElem?_cons_zero, List.getElem?_cons_succ] at Tw6_0 Tw6_1
  clear h_T
  have h_P := P_w6.out
  have l_P_w6 := h_P.lt
  have Pw6_0 := h_P.cell 0; have Pw6_1 := h_P.cell 1; have Pw6_2 := h_P.cell 2; have Pw6_3 := h_P.cell 3; have Pw6_4 := h_P.cell 4; have Pw6_5 := h_P.cell 5
  simp only [List.getElem?_cons_zero, List.getElem?_cons_succ] at Pw6_0 Pw6_1 Pw6_2 Pw6_3 Pw6_4 Pw6_5
  clear h_P
  have h_Q := Q_w6.out
  have l_Q_w6 := h_Q.lt
  have Qw6_0 := h_Q.cell 0; have Qw6_1 := h_Q.cell 1; have Qw6_2 := h_Q.cell 2; have Qw6_3 := h_Q.cell 3; have Qw6_4 := h_Q.cell 4; have Qw6_5 := h_Q.cell 5
  simp only [List.getElem?_cons_zero, List.getElem?_cons_succ] at Qw6_0 Qw6_1 Qw6_2 Qw6_3 Qw6_4 Qw6_5
  clear h_Q
  have h_R := R_w6.out
  have l_R_w6 := h_R.lt
  have Rw6_0 := h_R.cell 0; have Rw6_1 := h_R.cell 1; have Rw6_2 := h_R.cell 2; have Rw6_3 := h_R.cell 3; have Rw6_4 := h_R.cell 4; have Rw6_5 := h_R.cell 5
  simp only [List.getElem?_cons_zero, List.getElem?_cons_succ] at Rw6_0 Rw6_1 Rw6_2 Rw6_3 Rw6_4 Rw6_5
  clear h_R
  have h_S := S_w6.out
  have l_S_w6 := h_S.lt
  have Sw6_0 := h_S.cell 0; have Sw6_1 := h_S.cell 1; have Sw6_2 := h_S.cell 2; have Sw6_3 := h_S.cell 3; have Sw6_4 := h_S.cell 4; have Sw6_5 := h_S.cell 5
  simp only [List.getElem?_cons_zero, List.getElem?_cons_succ] at Sw6_0 Sw6_1 Sw6_2 Sw6_3 Sw6_4 Sw6_5
  clear h_S
  go_wp2_with fail
  refine (K6.out _ _ VU_w6a.out).mono ?_
  rintro en_w7 w7 ⟨rfl, b_w7⟩
  have HB_w7 := Lib.hid (bt HB_w6a.out b_w7)
  have T_w7 := Lib.hid (T_w6a.out.next b_w7)
  have P_w7 := Lib.hid (P_w6a.out.next b_w7)
  have Q_w7 := Lib.hid (Q_w6a.out.next b_w7)
  have R_w7 := Lib.hid (R_w6a.out.next b_w7)
  have S_w7 := Lib.hid (S_w6a.out.next b_w7)
  have U_w7 := Lib.hid (U_w6a.out.next b_w7)
  have VP_w7 := Lib.hid (Rd.below VP_w6a.out b_w7)
  have VQ_w7 := Lib.hid (Rd.below VQ_w6a.out b_w7)
  have VR_w7 := Lib.hid (Rd.below VR_w6a.out b_w7)
  have VS_w7 := Lib.hid (Rd.below VS_w6a.out b_w7)
  have VU_w7 := Lib.hid (Rd.below VU_w6a.out b_w7)
  have h_T := T_w7.out
  have l_T_w7 := h_T.lt
  have Tw7_0 := h_T.cell 0; have Tw7_1 := h_T.cell 1
  simp only [List.getElem?_cons_zero, List.getElem?_cons_succ] at Tw7_0 Tw7_1
  clear h_T
  have h_P := P_w7.out
  have l_P_w7 := h_P.lt
  have Pw7_0 := h_P.cell 0; have Pw7_1 := h_P.cell 1; have Pw7_2 := h_P.cell 2; have Pw7_3 := h_P.cell 3; have Pw7_4 := h_P.cell 4; have Pw7_5 := h_P.cell 5
  simp only [List.getElem?_cons_zero, List.getElem?_cons_succ] at Pw7_0 Pw7_1 Pw7_2 Pw7_3 Pw7_4 Pw7_5
  clear h_P
  have h_Q := Q_w7.out
  have l_Q_w7 := h_Q.lt
  have Qw7_0 := h_Q.cell 0; have Qw7_1 := h_Q.cell 1; have Qw7_2 := h_Q.cell 2; have Qw7_3 := h_Q.cell 3; have Qw7_4 := h_Q.cell 4; have Qw7_5 := h_Q.cell 5
  simp only [List.getElem?_cons_zero, List.getElem?_cons_succ] at Qw7_0 Qw7_1 Qw7_2 Qw7_3 Qw7_4 Qw7_5
  clear h_Q
  have h_R := R_w7.out
  have l_R_w7 := h_R.lt
  have Rw7_0 := h_R.cell 0; have Rw7_1 := h_R.cell 1; have Rw7_2 := h_R.cell 2; have Rw7_3 := h_R.cell 3; have Rw7_4 := h_R.cell 4; have Rw7_5 := h_R.cell 5
  simp only [List.getElem?_cons_zero, List.getElem?_cons_succ] at Rw7_0 Rw7_1 Rw7_2 Rw7_3 Rw7_4 Rw7_5
  clear h_R
  have h_S := S_w7.out
  have l_S_w7 := h_S.lt
  have Sw7_0 := h_S.cell 0; have Sw7_1 := h_S.cell 1; have Sw7_2 := h_S.cell 2; have Sw7_3 := h_S.cell 3; have Sw7_4 := h_S.cell 4; have Sw7_5 := h_S.cell 5
  simp only [List.getElem?_cons_zero, List.getElem?_cons_succ] at Sw7_0 Sw7_1 Sw7_2 Sw7_3 Sw7_4 Sw7_5
  clear h_S
  have h_U := U_w7.out
  have l_U_w7 := h_U.lt
  have Uw7_0 := h_U.cell 0; have Uw7_1 := h_U.cell 1; have Uw7_2 := h_U.cell 2; have Uw7_3 := h_U.cell 3; have Uw7_4 := h_U.cell 4; have Uw7_5 := h_U.cell 5
  simp only [List.getElem?_cons_zero, List.getElem?_cons_succ] at Uw7_0 Uw7_1 Uw7_2 Uw7_3 Uw7_4 Uw7_5
  clear h_U
  go_wp2_with fail
  refine (K7.out _ _ VU_w7.out).mono ?_
  rintro en_w8 w8 ⟨rfl, b_w8⟩
  have HB_w8 := Lib.hid (bt HB_w7.out b_w8)
  have T_w8 := Lib.hid (T_w7.out.next b_w8)
  have P_w8 := Lib.hid (P_w7.out.next b_w8)
  have Q_w8 := Lib.hid (Q_w7.out.next b_w8)
  have R_w8 := Lib.hid (R_w7.out.next b_w8)
  have S_w8 := Lib.hid (S_w7.out.next b_w8)
  have U_w8 := Lib.hid (U_w7.out.next b_w8)
  have VP_w8 := Lib.hid (Rd.below VP_w7.out b_w8)
  have VQ_w8 := Lib.hid (Rd.below VQ_w7.out b_w8)
  have VR_w8 := Lib.hid (Rd.below VR_w7.out b_w8)
  have VS_w8 := Lib.hid (Rd.below VS_w7.out b_w8)
  have VU_w8 := Lib.hid (Rd.below VU_w7.out b_w8)
  have h_T := T_w8.out
  have l_T_w8 := h_T.lt
  have Tw8_0 := h_T.cell 0; have Tw8_1 := h_T.cell 1
  simp only [List.getElem?_cons_zero, List.getElem?_cons_succ] at Tw8_0 Tw8_1
  clear h_T
  have h_P := P_w8.out
  have l_P_w8 := h_P.lt
  have Pw8_0 := h_P.cell 0; have Pw8_1 := h_P.cell 1; have Pw8_2 := h_P.cell 2; have Pw8_3 := h_P.cell 3; have Pw8_4 := h_P.cell 4; have Pw8_5 := h_P.cell 5
  simp only [List.getElem?_cons_zero, List.getElem?_cons_succ] at Pw8_0 Pw8_1 Pw8_2 Pw8_3 Pw8_4 Pw8_5
  clear h_P
  have h_Q := Q_w8.out
  have l_Q_w8 := h_Q.lt
  have Qw8_0 := h_Q.cell 0; have Qw8_1 := h_Q.cell 1; have Qw8_2 := h_Q.cell 2; have Qw8_3 := h_Q.cell 3; have Qw8_4 := h_Q.cell 4; have Qw8_5 := h_Q.cell 5
  simp only [List.getElem?_cons_zero, List.getElem?_cons_succ] at Qw8_0 Qw8_1 Qw8_2 Qw8_3 Qw8_4 Qw8_5
  clear h_Q
  have h_R := R_w8.out
  have l_R_w8 := h_R.lt
  have Rw8_0 := h_R.cell 0; have Rw8_1 := h_R.cell 1; have Rw8_2 := h_R.cell 2; have Rw8_3 := h_R.cell 3; have Rw8_4 := h_R.cell 4; have Rw8_5 := h_R.cell 5
  simp only [List.getElem?_cons_zero, List.getElem?_cons_succ] at Rw8_0 Rw8_1 Rw8_2 Rw8_3 Rw8_4 Rw8_5
  clear h_R
  have h_S := S_w8.out
  have l_S_w8 := h_S.lt
  have Sw8_0 := h_S.cell 0; have Sw8_1 := h_S.cell 1; have Sw8_2 := h_S.cell 2; have Sw8_3 := h_S.cell 3; have Sw8_4 := h_S.cell 4; have Sw8_5 := h_S.cell 5
  simp only [List.getElem?_cons_zero, List.getElem?_cons_succ] at Sw8_0 Sw8_1 Sw8_2 Sw8_3 Sw8_4 Sw8_5
  clear h_S
  have h_U := U_w8.out
  have l_U_w8 := h_U.lt
  have Uw8_0 := h_U.cell 0; have Uw8_1 := h_U.cell 1; have Uw8_2 := h_U.cell 2; have Uw8_3 := h_U.cell 3; have Uw8_4 := h_U.cell 4; have Uw8_5 := h_U.cell 5
  simp only [List.getElem?_cons_zero, List.getElem?_cons_succ] at Uw8_0 Uw8_1 Uw8_2 Uw8_3 Uw8_4 Uw8_5
  clear h_U
  go_wp2_with fail
  clear K1 K2 K3 K4 K5 K6 K7
  dsimp only [List.append]
  go_region_held3 (fun w' => w'.cell? ⟨w2.heap.size, 0, none⟩ = some (.int .i64 7) ∧ w'.cell? ⟨w2.heap.size, 1, none⟩ = some (.int .i64 690000) ∧ w'.cell? ⟨w2.heap.size, 2, none⟩ = some (.int .i64 1) ∧ w'.cell? ⟨w2.heap.size, 3, none⟩ = some (.int .i64 3) ∧ w'.cell? ⟨w2.heap.size, 4, none⟩ = some (.int .i64 1) ∧ w'.cell? ⟨w2.heap.size, 5, none⟩ = some (.slice x_w2 1 c_w2) ∧ w'.cell? ⟨w3.heap.size, 5, none⟩ = some (.slice x_w3 1 c_w3) ∧ w'.cell? ⟨w4.heap.size, 5, none⟩ = some (.slice x_w4 2 c_w4) ∧ w'.cell? ⟨w6.heap.size, 4, none⟩ = some (.int .i64 2))
    (first | go_keep | (go_split_ands; (repeat' apply And.intro) <;> first | assumption | exact kp hb1 (by assumption) | exact kp hb2 (by assumption) | exact kp hb3 (by assumption) | exact kp hb4 (by assumption) | exact kp hb5 (by assumption)) | fail)
    (first
      | (go_at_call 34; refine (KW.out _).mono ?_; rintro en9 w9 ⟨v9, rfl, hv9, hb1⟩; have HV9 := Lib.hid hv9; obtain ⟨x9, c9, rfl⟩ : ∃ x c, v9 = .slice x 1 c := (by obtain ⟨x, c, h0, _⟩ := hv9; exact ⟨x, c, h0⟩); have HB9 := Lib.hid (bd HB_w8.out hb1); have VP9 := Lib.hid (Rd.below VP_w8.out (bd (br w8) hb1)); have VQ9 := Lib.hid (Rd.below VQ_w8.out (bd (br w8) hb1)))
      | (go_at_call 18; refine (SP.out _ _ _ _ VP9.out HV9.out).mono ?_; rintro en10 w10 ⟨rfl, hb2⟩; have HB10 := Lib.hid (bt HB9.out hb2); have VQ10 := Lib.hid (Rd.below VQ9.out hb2))
      | (go_at_call 37; refine (KS.out _ _ _).mono ?_; rintro en11 w11 ⟨rfl, hb3⟩; have HB11 := Lib.hid (bt HB10.out hb3); have VQ11 := Lib.hid (Rd.below (Rd.below VQ10.out hb3) ((br _).alloc (Nat.le_refl _) (.cells #[.int .i64 700000, .int .i64 700014] 51))); have HL11 := Lib.hid (rd_lit elS [(700000, 700014)] w11 51 (0, 0) w11.heap.size rfl (by simp [maxLen])))
      | (go_at_call 36; refine (KL.out _ _).mono ?_; rintro enl wl ⟨rfl, rfl⟩)
      | (go_at_call 35; refine (SS.out _ _ _ VQ11.out HL11.out).mono ?_; rintro en12 w12 ⟨rfl, hb4⟩; have HB12 := Lib.hid (bt (HB11.out.alloc HB11.out.size _) hb4))
      | (go_at_call 17; refine (K8.out _).mono ?_; rintro en13 w13 ⟨rfl, hb5⟩; have HB13 := Lib.hid (bt HB12.out hb5))
      | fail)
  go_wp2
  go_ret
  exact ⟨by first | rfl | (simp; done), HB13.out⟩
end Pa
end Go.Proofs.Ytcgncmlldjblmaa
