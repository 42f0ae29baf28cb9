/- Gate: the document's function on reading a token, walked. (gen_gate8.py) -/
import Derived.Test.YtdfdjampodkpgaaDoorGateOf
import Derived.Test.YtdfdjampodkpgaaDoorAnyOrder2
set_option linter.unusedSimpArgs false
set_option linter.unusedVariables false
namespace Go.Proofs.YtdfdjampodkpgaaDoor
open Go.RowKit
namespace Gt
open Sn Pa Rg Tg
theorem tokF_no {l : List UInt8} (h : ¬ tokOk l) : tokF l = ((tk0, []), false) := by unfold tokF; rw [if_neg h]
theorem at_bS (l : List UInt8) (i : Nat) (h : i < (bS l).size) : ((bS l)[i]'h).toNat = numB ((l.drop i).take 1) := by
  have hl : i < l.length := by rw [bS_size] at h; exact h
  have e : (l.drop i).take 1 = [l[i]] := by rw [List.drop_eq_getElem_cons hl]; rfl
  rw [e]
  simp [numB]
  rfl
theorem tokF_yes {l : List UInt8} (h : tokOk l) : tokF l = ((tokT l, tokS l), true) := by unfold tokF; rw [if_pos h]
set_option maxRecDepth 100000 in
set_option maxHeartbeats 8000000 in
theorem of_any (v : Value) (eps : List Ep) (t : ByteArray) (ht : t.size ≤ 1100000) (w : World) (hv : Rd 3 Rg.eE w v eps) : Calls Tryd.prog 12 #[v, .string t] w (RdQ (rdF eps t) w) := by
  obtain ⟨R, hR⟩ : ∃ R, rdF eps t = R := ⟨_, rfl⟩
  rw [hR]
  unfold rdF at hR
  have HV := Lib.hid hv
  have hb0 := (br w).alloc (Nat.le_refl _) (.cells #[.int .i64 0, .int .i64 0, .int .i64 0, .int .i64 0, .slice none 0 0] 30)
  have HX0 := Lib.hid (Box.new w 30 [.int .i64 0, .int .i64 0, .int .i64 0, .int .i64 0, .slice none 0 0])
  have CR := Lib.hid (Sl.unspelled_any t ht (w.alloc (.cells #[.int .i64 0, .int .i64 0, .int .i64 0, .int .i64 0, .slice none 0 0] 30)))
  have HB0 := Lib.hid hb0; clear hb0 hv
  have hln := Sl.readF_len (Sl.nt t)
  unfold Sl.RQ at CR
  obtain ⟨A, hA⟩ : ∃ A, (Sl.readF (Sl.nt t)).1 = A := ⟨_, rfl⟩
  obtain ⟨E, hE⟩ : ∃ E, (Sl.readF (Sl.nt t)).2 = E := ⟨_, rfl⟩
  rw [hA, hE] at hR CR
  rw [hA] at hln
  clear hA hE
  have hsz := Sl.sB_size A
  generalize Sl.sB A = S at *
  have CO := Lib.hid (fun w' (hb : Below w.heap.size w w') => openOf_any v eps S (by omega) w' (HV.out.below hb))
  have hos := openF_size eps S
  unfold OpenQ at CO
  obtain ⟨T, hT⟩ : ∃ T, (openF eps S).1 = T := ⟨_, rfl⟩
  obtain ⟨N, hN⟩ : ∃ N, (openF eps S).2.1 = N := ⟨_, rfl⟩
  obtain ⟨F, hF⟩ : ∃ F, (openF eps S).2.2 = F := ⟨_, rfl⟩
  simp only [hT, hF] at hR
  simp only [hT, hF, hN] at CO
  rw [hT] at hos
  clear hT hF hN
  have hTs : T.data.toList.length ≤ 200 := by show T.size ≤ 200; omega
  rw [← bS_data T] at CO
  generalize T.data.toList = L at *
  have HR := Lib.hid hR
  clear hR hos hsz hln
  by_cases c1 : E ≠ 0
  · have hn : (E != 0) = true := by simpa using c1
    have hn2 : (E == 0) = false := by simpa using c1
    have hR2 : R = ((tk0, []), E) := by rw [← HR.out, if_pos c1]
    have HR2 := Lib.hid hR2; clear hR2 HR c1
    go_enter Tryd.func12, Tryd.ntmps12
    go_wp2_with fail
    refine CR.out.mono ?_
    rintro en w1 ⟨rfl, hb1⟩
    have HXw1 := Lib.hid (HX0.out.next hb1); have HBw1 := Lib.hid (bt HB0.out hb1); clear hb1
    have hX1 := HXw1.out
    have z0 := hX1.froz 0; have z1 := hX1.froz 1; have z2 := hX1.froz 2; have z3 := hX1.froz 3; have z4 := hX1.froz 4
    have c0 := hX1.cell 0; have c1 := hX1.cell 1; have c2 := hX1.cell 2; have c3 := hX1.cell 3; have c4 := hX1.cell 4
    simp only [List.getElem?_cons_zero, List.getElem?_cons_succ] at c0 c1 c2 c3 c4
    have l0 := hX1.lt
    clear hX1
    go_wp2
    have P := Tb.put HXw1.out tk0 (.slice none 0 0)
    have Q := below5 HBw1.out (Nat.le_refl _) (.int .i64 0) (.int .i64 0) (.int .i64 0) (.int .i64 0) (.slice none 0 0)
    generalize ((((w1.setCell ⟨w.heap.size, 0, none⟩ (.int .i64 0)).setCell ⟨w.heap.size, 1, none⟩ (.int .i64 0)).setCell ⟨w.heap.size, 2, none⟩ (.int .i64 0)).setCell ⟨w.heap.size, 3, none⟩ (.int .i64 0)).setCell ⟨w.heap.size, 4, none⟩ (.slice none 0 0) = W2 at P Q ⊢
    have y0 := P.cell 0; have y1 := P.cell 1; have y2 := P.cell 2; have y3 := P.cell 3; have y4 := P.cell 4
    simp only [List.getElem?_cons_zero, List.getElem?_cons_succ] at y0 y1 y2 y3 y4
    refine bodyPost_ret (v := .tuple #[aT tk0 (.slice none 0 0), .int .i64 E]) (by simp [results, Tryd.results12, go_sem, y0, y1, y2, y3, y4]) rfl ?_
    rw [HR2.out]
    exact ⟨_, rfl, Rd.nil _, (fun b _ => off_nil b), Q⟩
  have hE0 : E = 0 := by simpa using c1
  have hra := HR.out
  rw [if_neg c1] at hra
  have HRa := Lib.hid hra; clear hra HR c1
  subst hE0
  by_cases c2 : F ≠ 0
  · have hn : (F != 0) = true := by simpa using c2
    have hR2 : R = ((tk0, []), F) := by rw [← HRa.out, if_pos c2]
    have HR2 := Lib.hid hR2; clear hR2 HRa c2
    go_enter Tryd.func12, Tryd.ntmps12
    go_wp2_with fail
    refine CR.out.mono ?_
    rintro en w1 ⟨rfl, hb1⟩
    have HXw1 := Lib.hid (HX0.out.next hb1); have HBw1 := Lib.hid (bt HB0.out hb1); clear hb1
    go_wp2_with fail
    refine (CO.out _ HBw1.out).mono ?_
    rintro en w2 ⟨rfl, hb2⟩
    have HXw2 := Lib.hid (HXw1.out.next hb2); have HBw2 := Lib.hid (bt HBw1.out hb2); clear hb2 HXw1 HBw1
    have hX1 := HXw2.out
    have z0 := hX1.froz 0; have z1 := hX1.froz 1; have z2 := hX1.froz 2; have z3 := hX1.froz 3; have z4 := hX1.froz 4
    have c0 := hX1.cell 0; have c1 := hX1.cell 1; have c2 := hX1.cell 2; have c3 := hX1.cell 3; have c4 := hX1.cell 4
    simp only [List.getElem?_cons_zero, List.getElem?_cons_succ] at c0 c1 c2 c3 c4
    have l0 := hX1.lt
    clear hX1
    go_wp2
    have P := Tb.put HXw2.out tk0 (.slice none 0 0)
    have Q := below5 HBw2.out (Nat.le_refl _) (.int .i64 0) (.int .i64 0) (.int .i64 0) (.int .i64 0) (.slice none 0 0)
    generalize ((((w2.setCell ⟨w.heap.size, 0, none⟩ (.int .i64 0)).setCell ⟨w.heap.size, 1, none⟩ (.int .i64 0)).setCell ⟨w.heap.size, 2, none⟩ (.int .i64 0)).setCell ⟨w.heap.size, 3, none⟩ (.int .i64 0)).setCell ⟨w.heap.size, 4, none⟩ (.slice none 0 0) = W2 at P Q ⊢
    have y0 := P.cell 0; have y1 := P.cell 1; have y2 := P.cell 2; have y3 := P.cell 3; have y4 := P.cell 4
    simp only [List.getElem?_cons_zero, List.getElem?_cons_succ] at y0 y1 y2 y3 y4
    refine bodyPost_ret (v := .tuple #[aT tk0 (.slice none 0 0), .int .i64 F]) (by simp [results, Tryd.results12, go_sem, y0, y1, y2, y3, y4]) rfl ?_
    rw [HR2.out]
    exact ⟨_, rfl, Rd.nil _, (fun b _ => off_nil b), Q⟩
  have hF0 : F = 0 := by simpa using c2
  have hrb := HRa.out
  rw [if_neg c2] at hrb
  have HRb := Lib.hid hrb; clear hrb HRa c2
  subst hF0
  have hSz := bS_size L
  have HSz := Lib.hid hSz
  by_cases c3 : L.length < 8
  · have hR2 : R = ((tk0, []), 1) := by
      rw [← HRb.out, tokF_no (fun h => by have := h.1; omega)]; rfl
    have HR2 := Lib.hid hR2; clear hR2 HRb
    have i1 : ((bS L).size : Int) < 8 := by omega
    clear hSz c3
    generalize bS L = SL at *
    go_enter Tryd.func12, Tryd.ntmps12
    go_wp2_with fail
    refine CR.out.mono ?_
    rintro en w1 ⟨rfl, hb1⟩
    have HXw1 := Lib.hid (HX0.out.next hb1); have HBw1 := Lib.hid (bt HB0.out hb1); clear hb1
    go_wp2_with fail
    refine (CO.out _ HBw1.out).mono ?_
    rintro en w2 ⟨rfl, hb2⟩
    have HXw2 := Lib.hid (HXw1.out.next hb2); have HBw2 := Lib.hid (bt HBw1.out hb2); clear hb2 HXw1 HBw1
    have hX1 := HXw2.out
    have z0 := hX1.froz 0; have z1 := hX1.froz 1; have z2 := hX1.froz 2; have z3 := hX1.froz 3; have z4 := hX1.froz 4
    have c0 := hX1.cell 0; have c1 := hX1.cell 1; have c2 := hX1.cell 2; have c3 := hX1.cell 3; have c4 := hX1.cell 4
    simp only [List.getElem?_cons_zero, List.getElem?_cons_succ] at c0 c1 c2 c3 c4
    have l0 := hX1.lt
    clear hX1
    go_wp2
    have P := Tb.put HXw2.out tk0 (.slice none 0 0)
    have Q := below5 HBw2.out (Nat.le_refl _) (.int .i64 0) (.int .i64 0) (.int .i64 0) (.int .i64 0) (.slice none 0 0)
    generalize ((((w2.setCell ⟨w.heap.size, 0, none⟩ (.int .i64 0)).setCell ⟨w.heap.size, 1, none⟩ (.int .i64 0)).setCell ⟨w.heap.size, 2, none⟩ (.int .i64 0)).setCell ⟨w.heap.size, 3, none⟩ (.int .i64 0)).setCell ⟨w.heap.size, 4, none⟩ (.slice none 0 0) = W2 at P Q ⊢
    have y0 := P.cell 0; have y1 := P.cell 1; have y2 := P.cell 2; have y3 := P.cell 3; have y4 := P.cell 4
    simp only [List.getElem?_cons_zero, List.getElem?_cons_succ] at y0 y1 y2 y3 y4
    refine bodyPost_ret (v := .tuple #[aT tk0 (.slice none 0 0), .int .i64 1]) (by simp [results, Tryd.results12, go_sem, y0, y1, y2, y3, y4]) rfl ?_
    rw [HR2.out]
    exact ⟨_, rfl, Rd.nil _, (fun b _ => off_nil b), Q⟩
  have ix7 := ix_bS L 7 (by omega)
  have hx7 := numB1_lt L 7
  have HHN : RowKit.Hid (hdN L = numB ((L.drop 7).take 1)) := Lib.hid rfl
  obtain ⟨x7, e7⟩ : ∃ x7, numB ((L.drop 7).take 1) = x7 := ⟨_, rfl⟩
  rw [e7] at HHN ix7 hx7
  have h7 : 7 < (bS L).size := by rw [hSz]; omega
  have ix7' := Sl.idx_str (bS L) 7 7 rfl h7 (default : World)
  rw [show (7 : Int) = ((7 : Nat) : Int) from rfl, ix7] at ix7'
  injection ix7' with ix7a ix7b
  injection ix7a with _ ix7c
  have e8 : ((bS L)[7]'h7).toNat = x7 := by omega
  clear e7 ix7
  try clear ix7b
  try clear ix7c
  have m1 : IntKind.i64.wrap (6 * (x7 : Int)) = 6 * (x7 : Int) := IntWalk.i64_in _ (by omega)
  have m2 : IntKind.i64.wrap (8 + 6 * (x7 : Int)) = 8 + 6 * (x7 : Int) := IntWalk.i64_in _ (by omega)
  by_cases c4 : L.length ≠ 8 + 6 * x7
  · have hR2 : R = ((tk0, []), 1) := by
      rw [← HRb.out, tokF_no (fun h => by have := h.1; rw [HHN.out] at this; omega)]; rfl
    have HR2 := Lib.hid hR2; clear hR2 HRb
    have i1 : ¬ ((bS L).size : Int) < 8 := by omega
    have i4 : (7 : Int) < ((bS L).size : Int) := by omega
    have i3 : (((bS L).size : Int) != 8 + 6 * (x7 : Int)) = true := by rw [bne_iff_ne]; omega
    clear hSz c3 c4 HSz HHN
    generalize bS L = SL at *
    go_enter Tryd.func12, Tryd.ntmps12
    go_wp2_with fail
    refine CR.out.mono ?_
    rintro en w1 ⟨rfl, hb1⟩
    have HXw1 := Lib.hid (HX0.out.next hb1); have HBw1 := Lib.hid (bt HB0.out hb1); clear hb1
    go_wp2_with fail
    refine (CO.out _ HBw1.out).mono ?_
    rintro en w2 ⟨rfl, hb2⟩
    have HXw2 := Lib.hid (HXw1.out.next hb2); have HBw2 := Lib.hid (bt HBw1.out hb2); clear hb2 HXw1 HBw1
    have hX1 := HXw2.out
    have z0 := hX1.froz 0; have z1 := hX1.froz 1; have z2 := hX1.froz 2; have z3 := hX1.froz 3; have z4 := hX1.froz 4
    have c0 := hX1.cell 0; have c1 := hX1.cell 1; have c2 := hX1.cell 2; have c3 := hX1.cell 3; have c4 := hX1.cell 4
    simp only [List.getElem?_cons_zero, List.getElem?_cons_succ] at c0 c1 c2 c3 c4
    have l0 := hX1.lt
    clear hX1
    go_wp2
    have P := Tb.put HXw2.out tk0 (.slice none 0 0)
    have Q := below5 HBw2.out (Nat.le_refl _) (.int .i64 0) (.int .i64 0) (.int .i64 0) (.int .i64 0) (.slice none 0 0)
    generalize ((((w2.setCell ⟨w.heap.size, 0, none⟩ (.int .i64 0)).setCell ⟨w.heap.size, 1, none⟩ (.int .i64 0)).setCell ⟨w.heap.size, 2, none⟩ (.int .i64 0)).setCell ⟨w.heap.size, 3, none⟩ (.int .i64 0)).setCell ⟨w.heap.size, 4, none⟩ (.slice none 0 0) = W2 at P Q ⊢
    have y0 := P.cell 0; have y1 := P.cell 1; have y2 := P.cell 2; have y3 := P.cell 3; have y4 := P.cell 4
    simp only [List.getElem?_cons_zero, List.getElem?_cons_succ] at y0 y1 y2 y3 y4
    refine bodyPost_ret (v := .tuple #[aT tk0 (.slice none 0 0), .int .i64 1]) (by simp [results, Tryd.results12, go_sem, y0, y1, y2, y3, y4]) rfl ?_
    rw [HR2.out]
    exact ⟨_, rfl, Rd.nil _, (fun b _ => off_nil b), Q⟩
  have c5 : L.length = 8 + 6 * x7 := by omega
  have i1 : ¬ ((bS L).size : Int) < 8 := by omega
  have i4 : (7 : Int) < ((bS L).size : Int) := by omega
  have i3 : (((bS L).size : Int) != 8 + 6 * (x7 : Int)) = false := by rw [bne_eq_false_iff_eq]; omega
  have h5 : 5 < (bS L).size := by omega
  have j3 : (3 : Int) ≤ ((bS L).size : Int) := by omega
  have j5 : (5 : Int) ≤ ((bS L).size : Int) := by omega
  have j51 : (5 : Int) < ((bS L).size : Int) := by omega
  have j61 : (6 : Int) < ((bS L).size : Int) := by omega
  have h6 : 6 < (bS L).size := by omega
  have e9 : ((bS L)[5]'h5).toNat = numB ((L.drop 5).take 1) := at_bS L 5 h5
  have e10 : ((bS L)[6]'h6).toNat = numB ((L.drop 6).take 1) := at_bS L 6 h6
  have b5 := numB1_lt L 5; have b6 := numB1_lt L 6
  have sl1 := slh_bS L 3 (by omega)
  have sl2 := sl_bS L 3 5 (by omega) (by omega)
  have sx1 : (bS L).extract 0 3 = bS (L.take 3) := bS_take L 3
  have sx2 : (bS L).extract 3 5 = bS ((L.drop 3).take 2) := bS_ext L 3 5
  have CN1 := Lib.hid (numR_any (L.take 3) (by rw [List.length_take]; omega))
  have CN2 := Lib.hid (numR_any ((L.drop 3).take 2) (by rw [List.length_take]; omega))
  have HTT : RowKit.Hid (tokT L = ⟨numB (L.take 3), numB ((L.drop 5).take 1), numB ((L.drop 6).take 1), numB ((L.drop 3).take 2)⟩) := Lib.hid rfl
  have HTS : RowKit.Hid (tokS L = spsOf x7 (L.drop 8)) := Lib.hid (by unfold tokS; rw [HHN.out])
  have HOK : RowKit.Hid (tokOk L ↔ passE ⟨(tokT L).id, 1, (tokT L).a, (tokT L).b, (tokT L).ser⟩ (tokS L) = 0) := Lib.hid ⟨fun h => h.2, fun h => ⟨by rw [HHN.out]; exact c5, h⟩⟩
  have HRc : RowKit.Hid (R = if passE ⟨(tokT L).id, 1, (tokT L).a, (tokT L).b, (tokT L).ser⟩ (tokS L) = 0 then ((tokT L, tokS L), 0) else ((tk0, []), 1)) := Lib.hid (by
    rw [← HRb.out]
    by_cases h : passE ⟨(tokT L).id, 1, (tokT L).a, (tokT L).b, (tokT L).ser⟩ (tokS L) = 0
    · rw [if_pos h, tokF_yes (HOK.out.2 h)]; rfl
    · rw [if_neg h, tokF_no (fun k => h (HOK.out.1 k))]; rfl)
  rw [HTT.out, HTS.out] at HRc
  clear HTT HTS HOK HRb
  have HSL := Lib.hid (fun a (h : a + 3 ≤ L.length) w => sl_bS L a (a + 3) (by omega) h w)
  have HEX := Lib.hid (fun a b => bS_ext L a b)
  have HC5 := Lib.hid c5
  generalize numB (L.take 3) = n0 at *; generalize numB ((L.drop 3).take 2) = n1 at *; generalize numB ((L.drop 5).take 1) = n2 at *; generalize numB ((L.drop 6).take 1) = n3 at *
  rw [show (5 - 3 : Nat) = 2 from rfl] at sl2
  generalize bS (L.take 3) = S3 at *; generalize bS ((L.drop 3).take 2) = S35 at *
  have wr2 : IntKind.i64.wrap (n2 : Int) = (n2 : Int) := IntWalk.i64_in _ (by omega)
  have wr3 : IntKind.i64.wrap (n3 : Int) = (n3 : Int) := IntWalk.i64_in _ (by omega)
  clear c3 c4 c5 hSz HHN
  generalize bS L = SL at *
  go_enter Tryd.func12, Tryd.ntmps12
  go_wp2_with fail
  refine CR.out.mono ?_
  rintro en w1 ⟨rfl, hb1⟩
  have HXw1 := Lib.hid (HX0.out.next hb1); have HBw1 := Lib.hid (bt HB0.out hb1); clear hb1
  go_wp2_with fail
  refine (CO.out _ HBw1.out).mono ?_
  rintro en w2 ⟨rfl, hb2⟩
  have HXw2 := Lib.hid (HXw1.out.next hb2); have HBw2 := Lib.hid (bt HBw1.out hb2); clear hb2 HXw1 HBw1
  go_wp2_with fail
  refine wp_region_W (S := S2 13 14 (fun w' => w' = w2.drew) (fun w' => w' = (w2.alloc (Obj.cells #[.int .i64 0, .int .i64 0, .int .i64 0, .int .i64 0, .int .i64 0, .slice none 0 0] 25)).drew) (fun w' => w' = (w2.alloc (Obj.cells #[.int .i64 n0, .int .i64 1, .int .i64 n2, .int .i64 n3, .int .i64 n1, .slice none 0 0] 25)).drew)) (by kernel_rfl) (by rfl) ?_
  refine wpW_take (i := 0) (v := ?_) rfl (by kernel_rfl) (by kernel_rfl) (by kernel_rfl) (V_free (by rfl) (by rfl) (by rfl) ?_) ?_
  rotate_left
  · (intro w9; go_simp; try (with_reducible rfl))
  try simp only [Act.put, List.setIfInBounds_toArray, List.set_cons_zero, List.set_cons_succ, List.getElem_toArray, List.getElem_cons_succ, List.getElem_cons_zero]
  refine wpW_take (i := 1) (v := ?_) rfl (by kernel_rfl) (by kernel_rfl) (by kernel_rfl) (V_free (by rfl) (by rfl) (by rfl) ?_) ?_
  rotate_left
  · (intro w9; go_simp; try (with_reducible rfl))
  try simp only [Act.put, List.setIfInBounds_toArray, List.set_cons_zero, List.set_cons_succ, List.getElem_toArray, List.getElem_cons_succ, List.getElem_cons_zero]
  refine wpW_take (i := 2) rfl (by kernel_rfl) (by kernel_rfl) (by kernel_rfl) (V_call (by rfl) (by rfl) (by rfl) ?_ (CN1.out)) ?_
  · (intro w9; go_simp)
  try simp only [Act.put, List.setIfInBounds_toArray, List.set_cons_zero, List.set_cons_succ, List.getElem_toArray, List.getElem_cons_succ, List.getElem_cons_zero]
  refine wpW_take (i := 3) (v := ?_) rfl (by kernel_rfl) (by kernel_rfl) (by kernel_rfl) (V_free (by rfl) (by rfl) (by rfl) ?_) ?_
  rotate_left
  · (intro w9; go_simp; try (with_reducible rfl))
  try simp only [Act.put, List.setIfInBounds_toArray, List.set_cons_zero, List.set_cons_succ, List.getElem_toArray, List.getElem_cons_succ, List.getElem_cons_zero]
  refine wpW_take (i := 4) (v := ?_) rfl (by kernel_rfl) (by kernel_rfl) (by kernel_rfl) (V_free (by rfl) (by rfl) (by rfl) ?_) ?_
  rotate_left
  · (intro w9; go_simp; try (with_reducible rfl))
  try simp only [Act.put, List.setIfInBounds_toArray, List.set_cons_zero, List.set_cons_succ, List.getElem_toArray, List.getElem_cons_succ, List.getElem_cons_zero]
  refine wpW_take (i := 5) rfl (by kernel_rfl) (by kernel_rfl) (by kernel_rfl) (V_call (by rfl) (by rfl) (by rfl) ?_ (CN2.out)) ?_
  · (intro w9; go_simp)
  try simp only [Act.put, List.setIfInBounds_toArray, List.set_cons_zero, List.set_cons_succ, List.getElem_toArray, List.getElem_cons_succ, List.getElem_cons_zero]
  refine wpW_take (i := 6) (v := ?_) rfl (by kernel_rfl) (by kernel_rfl) (by kernel_rfl) (V_free (by rfl) (by rfl) (by rfl) ?_) ?_
  rotate_left
  · (intro w9; go_simp; try (with_reducible rfl))
  try simp only [Act.put, List.setIfInBounds_toArray, List.set_cons_zero, List.set_cons_succ, List.getElem_toArray, List.getElem_cons_succ, List.getElem_cons_zero]
  refine wpW_take (i := 7) (v := ?_) rfl (by kernel_rfl) (by kernel_rfl) (by kernel_rfl) (V_free (by rfl) (by rfl) (by rfl) ?_) ?_
  rotate_left
  · (intro w9; go_simp; try (with_reducible rfl))
  try simp only [Act.put, List.setIfInBounds_toArray, List.set_cons_zero, List.set_cons_succ, List.getElem_toArray, List.getElem_cons_succ, List.getElem_cons_zero]
  refine wpW_take (i := 8) (v := ?_) rfl (by kernel_rfl) (by kernel_rfl) (by kernel_rfl) (V_free (by rfl) (by rfl) (by rfl) ?_) ?_
  rotate_left
  · (intro w9; go_simp; try (with_reducible rfl))
  try simp only [Act.put, List.setIfInBounds_toArray, List.set_cons_zero, List.set_cons_succ, List.getElem_toArray, List.getElem_cons_succ, List.getElem_cons_zero]
  refine wpW_take (i := 9) (v := ?_) rfl (by kernel_rfl) (by kernel_rfl) (by kernel_rfl) (V_free (by rfl) (by rfl) (by rfl) ?_) ?_
  rotate_left
  · (intro w9; go_simp; try (with_reducible rfl))
  try simp only [Act.put, List.setIfInBounds_toArray, List.set_cons_zero, List.set_cons_succ, List.getElem_toArray, List.getElem_cons_succ, List.getElem_cons_zero]
  refine wpW_take (i := 10) (v := ?_) rfl (by kernel_rfl) (by kernel_rfl) (by kernel_rfl) (V_free (by rfl) (by rfl) (by rfl) ?_) ?_
  rotate_left
  · (intro w9; go_simp; try (with_reducible rfl))
  try simp only [Act.put, List.setIfInBounds_toArray, List.set_cons_zero, List.set_cons_succ, List.getElem_toArray, List.getElem_cons_succ, List.getElem_cons_zero]
  refine wpW_take (i := 11) (v := ?_) rfl (by kernel_rfl) (by kernel_rfl) (by kernel_rfl) (V_free (by rfl) (by rfl) (by rfl) ?_) ?_
  rotate_left
  · (intro w9; go_simp; try (with_reducible rfl))
  try simp only [Act.put, List.setIfInBounds_toArray, List.set_cons_zero, List.set_cons_succ, List.getElem_toArray, List.getElem_cons_succ, List.getElem_cons_zero]
  refine wpW_take (i := 12) (v := ?_) rfl (by kernel_rfl) (by kernel_rfl) (by kernel_rfl) (V_free (by rfl) (by rfl) (by rfl) ?_) ?_
  rotate_left
  · (intro w9; go_simp; try (with_reducible rfl))
  try simp only [Act.put, List.setIfInBounds_toArray, List.set_cons_zero, List.set_cons_succ, List.getElem_toArray, List.getElem_cons_succ, List.getElem_cons_zero]
  refine wpW_take (i := 13) (v := .pointer (some ⟨w2.heap.size, 0, none⟩)) rfl (by kernel_rfl) (by kernel_rfl) (by kernel_rfl) (V_first (by rfl) (by kernel_rfl) (by rfl) (fun w9 hw => ?_)) ?_
  · (subst hw; refine Hands.value ?_ rfl; go_simp; try (with_reducible rfl))
  try simp only [Act.put, List.setIfInBounds_toArray, List.set_cons_zero, List.set_cons_succ, List.getElem_toArray, List.getElem_cons_succ, List.getElem_cons_zero]
  refine wpW_take (i := 14) (v := undef) rfl (by kernel_rfl) (by kernel_rfl) (by kernel_rfl) (V_second (by rfl) (by kernel_rfl) (by rfl) (fun w9 hw => ?_)) ?_
  · (subst hw; go_simp; exact ⟨rfl, rfl⟩)
  try simp only [Act.put, List.setIfInBounds_toArray, List.set_cons_zero, List.set_cons_succ, List.getElem_toArray, List.getElem_cons_succ, List.getElem_cons_zero]
  refine wpW_done (by kernel_rfl) (fun w9 hw => ?_) _
  have hP9 : Box w9 w2.heap.size 25 [.int .i64 n0, .int .i64 1, .int .i64 n2, .int .i64 n3, .int .i64 n1, .slice none 0 0] := by rw [show w9 = _ from hw]; exact (Box.new w2 _ _).dr 1
  have hT9 : Box w9 w.heap.size 30 tz := by rw [show w9 = _ from hw]; exact (HXw2.out.alloc _).dr 1
  have hB9 : Below w.heap.size w w9 := by rw [show w9 = _ from hw]; exact bn (HBw2.out.alloc HBw2.out.size _) 1
  have hS9 : w2.heap.size + 1 ≤ w9.heap.size := by rw [show w9 = _ from hw]; simp
  have hwt : w.heap.size < w2.heap.size := HXw2.out.lt
  have HP9 := Lib.hid hP9; have HT9 := Lib.hid hT9; have HB9 := Lib.hid hB9; have HS9 := Lib.hid hS9
  have HWT := Lib.hid hwt
  clear hw hP9 hT9 hB9 hS9 hwt HXw2 HBw2 CR CO CN1 CN2 sl1 sl2 sx1 sx2 e8 e9 e10 b5 b6 m1 m2 wr2 wr3
  go_wp2
  go_loopw [9] (fun i wr => ∃ (k : Nat) (u : Value), k ≤ x7 ∧ i = .int .i64 ((8 + 6 * k : Nat) : Int) ∧ Box wr w.heap.size 30 tz ∧ Box wr w2.heap.size 25 [.int .i64 n0, .int .i64 1, .int .i64 n2, .int .i64 n3, .int .i64 n1, u] ∧ ROwn elS wr (w2.heap.size + 1) u (spsOf k (L.drop 8)) ∧ Below w.heap.size w wr ∧ w2.heap.size + 1 ≤ wr.heap.size) (fun i _ => 4000 - (intOf i).toNat)
  case atStart => exact ⟨0, .slice none 0 0, Nat.zero_le _, rfl, HT9.out, HP9.out, ROwn.nil _ _, HB9.out, HS9.out⟩
  case round =>
    obtain ⟨k, u, hk, rfl, hT, hP, hown, hB, hS⟩ := hrel
    have hsz : (SL.size : Int) = 8 + 6 * (x7 : Int) := by have := HSz.out; have := HC5.out; omega
    by_cases hlt : k < x7
    · have i5 : ((8 + 6 * k : Nat) : Int) < (SL.size : Int) := by omega
      have hL := HC5.out
      obtain ⟨p, hp⟩ : ∃ p, 8 + 6 * k = p := ⟨_, rfl⟩
      have CN3 := Lib.hid (numR_any ((L.drop p).take 3) (by rw [List.length_take]; omega))
      have CN4 := Lib.hid (numR_any ((L.drop (p + 3)).take 3) (by rw [List.length_take]; omega))
      have hspl : spsOf (k + 1) (L.drop 8) = spsOf k (L.drop 8) ++ [((numB ((L.drop p).take 3) : Int), (numB ((L.drop (p + 3)).take 3) : Int))] := by
        show spsOf k (L.drop 8) ++ [((numB (((L.drop 8).drop (6 * k)).take 3) : Int), (numB (((L.drop 8).drop (6 * k + 3)).take 3) : Int))] = _
        rw [List.drop_drop, List.drop_drop, ← hp]; rfl
      have HSPL := Lib.hid hspl
      have hsl := spsOf_len k (L.drop 8)
      have HSL2 := Lib.hid hsl
      have e1 := HEX.out p (p + 3)
      have e2 := HEX.out (p + 3) (p + 6)
      rw [show p + 3 - p = 3 by omega] at e1
      rw [show p + 6 - (p + 3) = 3 by omega] at e2
      rw [hp] at i5 ⊢
      generalize numB ((L.drop p).take 3) = pp at *
      generalize numB ((L.drop (p + 3)).take 3) = qq at *
      generalize bS ((L.drop p).take 3) = SA at *
      generalize bS ((L.drop (p + 3)).take 3) = SB at *
      have t3 : ((p : Int) + 3).toNat = p + 3 := by omega
      have t6 : ((p : Int) + 6).toNat = p + 6 := by omega
      have g0 : (0 : Int) ≤ (p : Int) := by omega
      have g1 : (0 : Int) ≤ (p : Int) + 3 := by omega
      have g2 : (p : Int) ≤ (p : Int) + 3 := by omega
      have g3 : (p : Int) + 3 ≤ (p : Int) + 6 := by omega
      have g4 : (p : Int) + 3 ≤ (SL.size : Int) := by omega
      have g5 : (p : Int) + 6 ≤ (SL.size : Int) := by omega
      have HKK := Lib.hid (show 8 + 6 * (k + 1) = p + 6 by omega)
      have HPB := Lib.hid (show p ≤ 3000 by omega)
      have w3 : IntKind.i64.wrap ((p : Int) + 3) = (p : Int) + 3 := IntWalk.i64_in _ (by omega)
      have w6 : IntKind.i64.wrap ((p : Int) + 6) = (p : Int) + 6 := IntWalk.i64_in _ (by omega)
      have s1 : ∀ w, (Instr.slice 9 (.string SL) (some (.int .i64 (p : Int))) (some (.int .i64 ((p : Int) + 3))) none).run Tryd.prog w = .ok (.string SA) w := fun w => by
        have := run_slice_string (P := Tryd.prog) (w := w) 9 SL .i64 .i64 (p : Int) ((p : Int) + 3) Tryd.underlying9 (by omega) (by omega) (by omega)
        rw [this, Int.toNat_natCast, t3, e1]
      have s2 : ∀ w, (Instr.slice 9 (.string SL) (some (.int .i64 ((p : Int) + 3))) (some (.int .i64 ((p : Int) + 6))) none).run Tryd.prog w = .ok (.string SB) w := fun w => by
        have := run_slice_string (P := Tryd.prog) (w := w) 9 SL .i64 .i64 ((p : Int) + 3) ((p : Int) + 6) Tryd.underlying9 (by omega) (by omega) (by omega)
        rw [this, t3, t6, e2]
      have z5 := hP.froz 5
      have c5 := hP.cell 5
      simp only [List.getElem?_cons_zero, List.getElem?_cons_succ] at c5
      have HP := Lib.hid hP; have HT := Lib.hid hT; have HB := Lib.hid hB; have HS := Lib.hid hS; have HOW := Lib.hid hown
      clear hspl hsl hL hsz hp hP hT hB hS hown
      have HA8 := Lib.hid (bn ((br wr).alloc (Nat.le_refl _) (.cells #[.int .i64 (pp : Int), .int .i64 (qq : Int)] 67)) 1)
      have HP8 := Lib.hid (HP.out.next HA8.out)
      have c5a : (wr.alloc (.cells #[.int .i64 (pp : Int), .int .i64 (qq : Int)] 67)).cell? ⟨w2.heap.size, 5, none⟩ = some u := by have := HP8.out.cell 5; simp only [List.getElem?_cons_zero, List.getElem?_cons_succ] at this; exact this
      have HO2 : RowKit.Hid (ROwn elS (wr.alloc (.cells #[.int .i64 (pp : Int), .int .i64 (qq : Int)] 67)).drew (w2.heap.size + 1) u (spsOf k (L.drop 8))) := Lib.hid (HOW.out.next HA8.out)
      have HL2 : RowKit.Hid (RdE elS (wr.alloc (.cells #[.int .i64 (pp : Int), .int .i64 (qq : Int)] 67)).drew (.slice (some ⟨wr.heap.size, 0, none⟩) 1 1) [((pp : Int), (qq : Int))]) := Lib.hid (rdE_dr (E := elS) (rd_lit elS [((pp : Int), (qq : Int))] wr 67 (0, 0) wr.heap.size rfl (by simp [maxLen])))
      go_wp2_with fail
      go_region_law
        (first
          | (go_simp; go_at_call 35; (with_reducible refine (CN3.out _).mono ?_); rintro e8 w8 ⟨rfl, rfl⟩)
          | (go_simp; go_at_call 35; (with_reducible refine (CN4.out _).mono ?_); rintro e8 w8 ⟨rfl, rfl⟩)
          | (refine stepE_app elS (by rfl) (.tmp 62) (.tmp 77) (by rfl) (w2.heap.size + 1) u (spsOf k (L.drop 8)) (by rfl) HO2.out _ [((pp : Int), (qq : Int))] (by rfl) HL2.out (by rw [HSL2.out]; show k + 1 ≤ _; unfold maxLen; have := HPB.out; have := HKK.out; omega) (by rw [HSL2.out]; show (k + 1) * 16 ≤ _; have := HPB.out; have := HKK.out; omega) (by have h1 := HS.out; simp; omega) ?_; intro v9 w9 hown9 hb9 hfar9; have hsh := shapeE hown9; rw [show (spsOf k (L.drop 8) ++ [((pp : Int), (qq : Int))]).length = k + 1 by rw [List.length_append, HSL2.out]; rfl] at hsh; obtain ⟨a9, k9, rfl⟩ := hsh
             have hP9 := HP8.out.of_block (hb9.block w2.heap.size (by omega)); have c9 := hP9.cell 5; have z9 := hP9.froz 5; simp only [List.getElem?_cons_zero, List.getElem?_cons_succ] at c9; have HP9 := Lib.hid hP9; have HOW9 := Lib.hid hown9; have HL9 := Lib.hid hb9; clear hP9 hown9 hb9 hfar9)
          | fail)
      all_goals
        have h1 := HS.out
        have h2 := HA8.out.size
        have h3 : (wr.alloc (.cells #[.int .i64 (pp : Int), .int .i64 (qq : Int)] 67)).drew.heap.size = wr.heap.size + 1 := by simp
        have hwt := HWT.out
        have hTn := ((HT.out.next HA8.out).of_block (HL9.out.block w.heap.size (by omega))).other w2.heap.size 5 (.slice a9 (k + 1) k9) (by omega)
        have hPn := HP9.out.set 5 (.slice a9 (k + 1) k9)
        have hOn := setE (j := 5) (u := .slice a9 (k + 1) k9) HOW9.out (b := w2.heap.size) (fun e => by have := (HOW9.out.lt _ e).1; omega)
        have hBn := ((HB.out.trans (HA8.out.mono HB.out.size)).trans (HL9.out.mono (by omega))).setCell (p := ⟨w2.heap.size, 5, none⟩) (Nat.le_of_lt hwt) (.slice a9 (k + 1) k9)
        have hSn : w2.heap.size + 1 ≤ (w9.setCell ⟨w2.heap.size, 5, none⟩ (.slice a9 (k + 1) k9)).heap.size := by
          have h4 := HL9.out.size
          simp; omega
        rw [← HSPL.out] at hOn
        have HTn := Lib.hid hTn; have HPn := Lib.hid hPn; have HOn := Lib.hid hOn; have HBn := Lib.hid hBn; have HSn := Lib.hid hSn
        clear hTn hPn hOn hBn hSn h1 h2 h3 c9 z9 c5 z5 c5a HP8 HA8 HO2 HL2 HP9 HOW9 HL9 hwt
        go_wp2
        go_roundw
        case rel => exact ⟨k + 1, _, by omega, by rw [HKK.out]; go_num, HTn.out, HPn.out, HOn.out, HBn.out, HSn.out⟩
        case measure => simp [intOf]; have := HPB.out; omega
    · have e : k = x7 := by omega
      subst e
      have i6 : ¬ ((8 + 6 * k : Nat) : Int) < (SL.size : Int) := by omega
      obtain ⟨p, hp⟩ : ∃ p, 8 + 6 * k = p := ⟨_, rfl⟩
      rw [hp] at i6 ⊢
      clear hp hsz
      obtain ⟨ua, uc, rfl⟩ := shapeE hown
      have hoff := off_own hown
      rw [spsOf_len] at hown hP hoff
      have hrd := hown.rd
      have CPC := Lib.hid (fun w' (hb : Below wr.heap.size wr w') => Pa.checkR_any ⟨n0, 1, n2, n3, n1⟩ (.slice ua k uc) (spsOf k (L.drop 8)) w' (hrd.below hb))
      have hrc := HRc.out
      try simp only at hrc
      obtain ⟨E2, hE2⟩ : ∃ E2, passE ⟨n0, 1, n2, n3, n1⟩ (spsOf k (L.drop 8)) = E2 := ⟨_, rfl⟩
      rw [hE2] at CPC hrc
      clear hE2
      generalize spsOf k (L.drop 8) = sl at *
      have HRd := Lib.hid hrc; have HRDD := Lib.hid hrd; have HOFF := Lib.hid hoff
      clear hrc hrd hoff hown HRc
      unfold aP at CPC
      try simp only at CPC
      have p0 := hP.cell 0; have p1 := hP.cell 1; have p2 := hP.cell 2; have p3 := hP.cell 3; have p4 := hP.cell 4; have p5 := hP.cell 5
      simp only [List.getElem?_cons_zero, List.getElem?_cons_succ] at p0 p1 p2 p3 p4 p5
      have HPx := Lib.hid hP; have HTx := Lib.hid hT; have HBx := Lib.hid hB; have HSx := Lib.hid hS
      clear hP hT hB hS
      by_cases c6 : E2 = 0
      · have hn : (E2 != 0) = false := by simp [c6]
        have hR2 : R = ((⟨n0, n2, n3, n1⟩, sl), 0) := by rw [HRd.out, if_pos c6]
        have HR2 := Lib.hid hR2
        subst c6
        clear hR2 HRd
        go_wp2_with fail
        refine (CPC.out _ (br _)).mono ?_
        rintro en w10 ⟨rfl, hb10⟩
        have HXw10 := Lib.hid (HTx.out.next hb10); have HBw10 := Lib.hid (HBx.out.trans (hb10.mono HBx.out.size))
        have hP := HPx.out.next hb10
        have HRD := Lib.hid (HRDD.out.below hb10)
        have HO0 := Lib.hid (HOFF.out w.heap.size (by have := HWT.out; omega))
        have HOF := Lib.hid (fun b (hb : b < w.heap.size) => HOFF.out b (by have := HWT.out; omega))
        have p0 := hP.cell 0; have p1 := hP.cell 1; have p2 := hP.cell 2; have p3 := hP.cell 3; have p4 := hP.cell 4; have p5 := hP.cell 5
        simp only [List.getElem?_cons_zero, List.getElem?_cons_succ] at p0 p1 p2 p3 p4 p5
        clear hP hb10
        have hX1 := HXw10.out
        have z0 := hX1.froz 0; have z1 := hX1.froz 1; have z2 := hX1.froz 2; have z3 := hX1.froz 3; have z4 := hX1.froz 4
        have c0 := hX1.cell 0; have c1 := hX1.cell 1; have c2 := hX1.cell 2; have c3 := hX1.cell 3; have c4 := hX1.cell 4
        simp only [List.getElem?_cons_zero, List.getElem?_cons_succ] at c0 c1 c2 c3 c4
        have l0 := hX1.lt
        clear hX1
        go_wp2
        have P := Tb.put HXw10.out ⟨n0, n2, n3, n1⟩ (.slice ua k uc)
        have Q := below5 HBw10.out (Nat.le_refl _) (.int .i64 n0) (.int .i64 n2) (.int .i64 n3) (.int .i64 n1) (.slice ua k uc)
        have R5 := rd_put5 (b := w.heap.size) HRD.out (HO0.out) (.int .i64 n0) (.int .i64 n2) (.int .i64 n3) (.int .i64 n1) (.slice ua k uc)
        generalize ((((w10.setCell ⟨w.heap.size, 0, none⟩ (.int .i64 n0)).setCell ⟨w.heap.size, 1, none⟩ (.int .i64 n2)).setCell ⟨w.heap.size, 2, none⟩ (.int .i64 n3)).setCell ⟨w.heap.size, 3, none⟩ (.int .i64 n1)).setCell ⟨w.heap.size, 4, none⟩ (.slice ua k uc) = W2 at P Q R5 ⊢
        have y0 := P.cell 0; have y1 := P.cell 1; have y2 := P.cell 2; have y3 := P.cell 3; have y4 := P.cell 4
        simp only [List.getElem?_cons_zero, List.getElem?_cons_succ] at y0 y1 y2 y3 y4
        refine bodyPost_ret (v := .tuple #[aT ⟨n0, n2, n3, n1⟩ (.slice ua k uc), .int .i64 0]) (by simp [results, Tryd.results12, go_sem, y0, y1, y2, y3, y4]) rfl ?_
        rw [HR2.out]
        exact ⟨_, rfl, R5, HOF.out, Q⟩
      · have hn : (E2 != 0) = true := by simp [c6]
        have hR2 : R = ((tk0, []), 1) := by rw [HRd.out, if_neg c6]
        have HR2 := Lib.hid hR2
        clear hR2 HRd
        go_wp2_with fail
        refine (CPC.out _ (br _)).mono ?_
        rintro en w10 ⟨rfl, hb10⟩
        have HXw10 := Lib.hid (HTx.out.next hb10); have HBw10 := Lib.hid (HBx.out.trans (hb10.mono HBx.out.size))
        clear hb10 p0 p1 p2 p3 p4 p5
        have hX1 := HXw10.out
        have z0 := hX1.froz 0; have z1 := hX1.froz 1; have z2 := hX1.froz 2; have z3 := hX1.froz 3; have z4 := hX1.froz 4
        have c0 := hX1.cell 0; have c1 := hX1.cell 1; have c2 := hX1.cell 2; have c3 := hX1.cell 3; have c4 := hX1.cell 4
        simp only [List.getElem?_cons_zero, List.getElem?_cons_succ] at c0 c1 c2 c3 c4
        have l0 := hX1.lt
        clear hX1
        go_wp2
        have P := Tb.put HXw10.out tk0 (.slice none 0 0)
        have Q := below5 HBw10.out (Nat.le_refl _) (.int .i64 0) (.int .i64 0) (.int .i64 0) (.int .i64 0) (.slice none 0 0)
        generalize ((((w10.setCell ⟨w.heap.size, 0, none⟩ (.int .i64 0)).setCell ⟨w.heap.size, 1, none⟩ (.int .i64 0)).setCell ⟨w.heap.size, 2, none⟩ (.int .i64 0)).setCell ⟨w.heap.size, 3, none⟩ (.int .i64 0)).setCell ⟨w.heap.size, 4, none⟩ (.slice none 0 0) = W2 at P Q ⊢
        have y0 := P.cell 0; have y1 := P.cell 1; have y2 := P.cell 2; have y3 := P.cell 3; have y4 := P.cell 4
        simp only [List.getElem?_cons_zero, List.getElem?_cons_succ] at y0 y1 y2 y3 y4
        refine bodyPost_ret (v := .tuple #[aT tk0 (.slice none 0 0), .int .i64 1]) (by simp [results, Tryd.results12, go_sem, y0, y1, y2, y3, y4]) rfl ?_
        rw [HR2.out]
        exact ⟨_, rfl, Rd.nil _, (fun b _ => off_nil b), Q⟩
end Gt
end Go.Proofs.YtdfdjampodkpgaaDoor
