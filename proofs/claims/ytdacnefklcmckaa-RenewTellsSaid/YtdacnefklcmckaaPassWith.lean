/- Passes: a pass with other days. (gen_pass3.py) -/
import Derived.Test.YtdacnefklcmckaaPassNew
import Derived.Test.YtdacnefklcmckaaSpansHas
import Derived.Test.YtdacnefklcmckaaSpansPlain3
import Derived.Deep.Cut
set_option linter.unusedSimpArgs false
set_option linter.unusedVariables false
namespace Go.Proofs.Ytdacnefklcmckaa
open Go.RowKit
namespace Pa
open Dt Sn
theorem sizeN_bd (l : List Sp) : 0 ≤ sizeN l ∧ sizeN l ≤ 140737488355328 := by
  unfold sizeN
  by_cases c : chkS l = 0
  · rw [if_pos c]; exact days_ge c
  · rw [if_neg c]; omega
abbrev R3 := (Ps × List Sp) × Int × Int
abbrev R3Q (d : Value) (r : R3) (w : World) := PassNQ d r.1.1 r.1.2 r.2.1 r.2.2 w
def withF (p : Ps) (l m : List Sp) : R3 := if passE p m = 0 then ((p, m), max (sizeN m - sizeN l) (sizeN l - sizeN m), 0) else ((p0, []), 0, passE p m)
set_option maxRecDepth 100000 in
set_option maxHeartbeats 800000 in
theorem with_any (p : Ps) (d : Value) (l : List Sp) (f : Value) (m : List Sp) (w : World) (h : RdE elS w d l) (h' : RdE elS w f m) : Calls Try.prog 28 #[aP p d, f] w (R3Q f (withF p l m) w) := by
  have C1 := Lib.hid (fun w' (hb : Below w.heap.size w w') => size_any d l w' (h.below hb))
  have C2 := Lib.hid (fun w' (hb : Below w.heap.size w w') => told_any p f m w' (h'.below hb))
  have C3 := Lib.hid (fun w' (hb : Below w.heap.size w w') => size_any f m w' (h'.below hb))
  have hb1 := sizeN_bd l
  have hb2 := sizeN_bd m
  unfold withF
  generalize sizeN l = S1 at *
  generalize sizeN m = S2 at *
  generalize chkS l = K1 at *
  generalize chkS m = K2 at *
  obtain ⟨E, hE⟩ : ∃ E, passE p m = E := ⟨_, rfl⟩
  rw [hE] at C2 ⊢
  clear hE
  obtain ⟨id, born, a, b, ser⟩ := p
  obtain ⟨x, cap, rfl, _, _, _⟩ := h
  have HV' := Lib.hid h'
  obtain ⟨x', cap', rfl, _, _, _⟩ := h'
  have HA := Lib.hid (((br w).alloc (Nat.le_refl _) (.cells #[.int .i64 id, .int .i64 born, .int .i64 a, .int .i64 b, .int .i64 ser, .slice x l.length cap] 24)).alloc (by simp) (.cells #[.int .i64 0, .int .i64 0, .int .i64 0, .int .i64 0, .int .i64 0, .slice none 0 0] 24))
  have hx : Pb (w.alloc (.cells #[.int .i64 id, .int .i64 born, .int .i64 a, .int .i64 b, .int .i64 ser, .slice x l.length cap] 24)) w.heap.size ⟨id, born, a, b, ser⟩ (.slice x l.length cap) := Box.new w _ _
  have HX := Lib.hid (Box.alloc hx (.cells #[.int .i64 0, .int .i64 0, .int .i64 0, .int .i64 0, .int .i64 0, .slice none 0 0] 24))
  have hy : Pb ((w.alloc (.cells #[.int .i64 id, .int .i64 born, .int .i64 a, .int .i64 b, .int .i64 ser, .slice x l.length cap] 24)).alloc (.cells #[.int .i64 0, .int .i64 0, .int .i64 0, .int .i64 0, .int .i64 0, .slice none 0 0] 24)) (w.alloc (.cells #[.int .i64 id, .int .i64 born, .int .i64 a, .int .i64 b, .int .i64 ser, .slice x l.length cap] 24)).heap.size ⟨0, 0, 0, 0, 0⟩ (.slice none 0 0) := Box.new _ _ _
  rw [asz] at hy
  have HY := Lib.hid hy
  clear hy hx
  by_cases c : E = 0
  · subst c
    rw [if_pos rfl] at C2
    rw [if_pos rfl] at C2
    rw [if_pos rfl]
    go_enter Try.func28, Try.ntmps28
    go_wp2_with fail
    refine (C1.out _ (by first | exact HA.out | exact bn HA.out _)).mono ?_
    rintro en w2 ⟨rfl, b2⟩
    have HB := Lib.hid (bt HA.out b2)
    have hx := HX.out.next b2
    have HY2 := Lib.hid (HY.out.next b2)
    have hlt := hx.lt
    have k0 := hx.cell 0; have k1 := hx.cell 1; have k2 := hx.cell 2; have k3 := hx.cell 3; have k4 := hx.cell 4; have k5 := hx.cell 5
    simp only [List.getElem?_cons_zero, List.getElem?_cons_succ] at k0 k1 k2 k3 k4 k5
    have f0 := hx.froz 0; have f1 := hx.froz 1; have f2 := hx.froz 2; have f3 := hx.froz 3; have f4 := hx.froz 4; have f5 := hx.froz 5
    have HX2 := Lib.hid (hx.set 5 (.slice x' m.length cap'))
    have HB2 := Lib.hid (HB.out.setCell (p := ⟨w.heap.size, 5, none⟩) (Nat.le_refl _) (.slice x' m.length cap'))
    have HY3 := Lib.hid (HY2.out.other w.heap.size 5 (.slice x' m.length cap') (by omega))
    clear b2 hx HX HY HA HB HY2 C1
    go_wp2_with fail
    refine (C2.out _ HB2.out).mono ?_
    rintro en w3 ⟨v3, rfl, hv3, ho3, b3⟩
    have HO3 := Lib.hid (fun b (hb : b < w.heap.size + 2) => ho3 b (by have := HY3.out.lt; omega))
    have HB3 := Lib.hid (bt HB2.out b3)
    have hx := HX2.out.next b3
    have HY4 := Lib.hid (HY3.out.next b3)
    have hlt := hx.lt
    have HV3 := Lib.hid hv3
    obtain ⟨x3, cap3, rfl, _, _, _⟩ := hv3
    simp only [List.set_cons_zero, List.set_cons_succ] at hx
    clear k0 k1 k2 k3 k4 k5 f0 f1 f2 f3 f4 f5
    have k0 := hx.cell 0; have k1 := hx.cell 1; have k2 := hx.cell 2; have k3 := hx.cell 3; have k4 := hx.cell 4; have k5 := hx.cell 5
    simp only [List.getElem?_cons_zero, List.getElem?_cons_succ] at k0 k1 k2 k3 k4 k5
    have f0 := hx.froz 0; have f1 := hx.froz 1; have f2 := hx.froz 2; have f3 := hx.froz 3; have f4 := hx.froz 4; have f5 := hx.froz 5
    have hp := Pb.put hx ⟨id, born, a, b, ser⟩ (.slice x3 m.length cap3)
    have hq := below6 HB3.out (b := w.heap.size) (by omega) (.int .i64 id) (.int .i64 born) (.int .i64 a) (.int .i64 b) (.int .i64 ser) ((.slice x3 m.length cap3))
    have hr := rd_put6 (b := w.heap.size) HV3.out (HO3.out _ (by omega) (off_rd HV'.out (Nat.le_refl _))) (.int .i64 id) (.int .i64 born) (.int .i64 a) (.int .i64 b) (.int .i64 ser) ((.slice x3 m.length cap3))
    have ht := Bx.others (b' := w.heap.size) HY4.out (by omega) (.int .i64 id) (.int .i64 born) (.int .i64 a) (.int .i64 b) (.int .i64 ser) ((.slice x3 m.length cap3))
    have HP := Lib.hid hp; have HQ := Lib.hid hq; have HR := Lib.hid hr; have HT := Lib.hid ht
    clear hp hq hr ht
    clear hx b3 HX2 HB2 HY3 C2 HB3 HY4 HV3
    go_wp2_with fail
    generalize (((((w3.setCell ⟨w.heap.size, 0, none⟩ (.int .i64 id)).setCell ⟨w.heap.size, 1, none⟩ (.int .i64 born)).setCell ⟨w.heap.size, 2, none⟩ (.int .i64 a)).setCell ⟨w.heap.size, 3, none⟩ (.int .i64 b)).setCell ⟨w.heap.size, 4, none⟩ (.int .i64 ser)).setCell ⟨w.heap.size, 5, none⟩ ((.slice x3 m.length cap3)) = W2 at HP HQ HR HT ⊢
    clear k0 k1 k2 k3 k4 k5 f0 f1 f2 f3 f4 f5
    refine (C3.out _ HQ.out).mono ?_
    rintro en w4 ⟨rfl, b4⟩
    have HB4 := Lib.hid (bt HQ.out b4)
    have hx := HP.out.next b4
    have hy := HT.out.next b4
    have HV4 := Lib.hid (HR.out.below b4)
    have hlt := hy.lt
    have k0 := hx.cell 0; have k1 := hx.cell 1; have k2 := hx.cell 2; have k3 := hx.cell 3; have k4 := hx.cell 4; have k5 := hx.cell 5
    simp only [List.getElem?_cons_zero, List.getElem?_cons_succ] at k0 k1 k2 k3 k4 k5
    have z0 := hy.cell 0; have z1 := hy.cell 1; have z2 := hy.cell 2; have z3 := hy.cell 3; have z4 := hy.cell 4; have z5 := hy.cell 5
    simp only [List.getElem?_cons_zero, List.getElem?_cons_succ] at z0 z1 z2 z3 z4 z5
    have f0 := hy.froz 0; have f1 := hy.froz 1; have f2 := hy.froz 2; have f3 := hy.froz 3; have f4 := hy.froz 4; have f5 := hy.froz 5
    have HY5 := Lib.hid hy
    clear b4 hx hy HP HQ HR HT C3
    go_wp2
    have P := Pb.put HY5.out ⟨id, born, a, b, ser⟩ (.slice x3 m.length cap3)
    have Q := below6 HB4.out (b := w.heap.size + 1) (by omega) (.int .i64 id) (.int .i64 born) (.int .i64 a) (.int .i64 b) (.int .i64 ser) ((.slice x3 m.length cap3))
    have R := rd_put6 (b := w.heap.size + 1) HV4.out (HO3.out _ (by omega) (off_rd HV'.out (by omega))) (.int .i64 id) (.int .i64 born) (.int .i64 a) (.int .i64 b) (.int .i64 ser) ((.slice x3 m.length cap3))
    generalize (((((w4.setCell ⟨w.heap.size + 1, 0, none⟩ (.int .i64 id)).setCell ⟨w.heap.size + 1, 1, none⟩ (.int .i64 born)).setCell ⟨w.heap.size + 1, 2, none⟩ (.int .i64 a)).setCell ⟨w.heap.size + 1, 3, none⟩ (.int .i64 b)).setCell ⟨w.heap.size + 1, 4, none⟩ (.int .i64 ser)).setCell ⟨w.heap.size + 1, 5, none⟩ ((.slice x3 m.length cap3)) = W2 at P Q R ⊢
    have y0 := P.cell 0; have y1 := P.cell 1; have y2 := P.cell 2; have y3 := P.cell 3; have y4 := P.cell 4; have y5 := P.cell 5
    simp only [List.getElem?_cons_zero, List.getElem?_cons_succ] at y0 y1 y2 y3 y4 y5
    refine bodyPost_ret (v := .tuple #[aP ⟨id, born, a, b, ser⟩ (.slice x3 m.length cap3), .int .i64 (max (S2 - S1) (S1 - S2)), .int .i64 0]) (by simp [results, Try.results28, go_sem, y0, y1, y2, y3, y4, y5]) rfl ⟨_, rfl, R, fun b hb ho => HO3.out b (by omega) ho, Q⟩
  · rw [if_neg c] at C2
    rw [if_neg c] at C2
    rw [show (p0 : Ps) = ⟨0, 0, 0, 0, 0⟩ from rfl] at C2
    rw [if_neg c]
    have hz : (E == 0) = false := by simpa using c
    go_enter Try.func28, Try.ntmps28
    go_wp2_with fail
    refine (C1.out _ (by first | exact HA.out | exact bn HA.out _)).mono ?_
    rintro en w2 ⟨rfl, b2⟩
    have HB := Lib.hid (bt HA.out b2)
    have hx := HX.out.next b2
    have HY2 := Lib.hid (HY.out.next b2)
    have hlt := hx.lt
    have k0 := hx.cell 0; have k1 := hx.cell 1; have k2 := hx.cell 2; have k3 := hx.cell 3; have k4 := hx.cell 4; have k5 := hx.cell 5
    simp only [List.getElem?_cons_zero, List.getElem?_cons_succ] at k0 k1 k2 k3 k4 k5
    have f0 := hx.froz 0; have f1 := hx.froz 1; have f2 := hx.froz 2; have f3 := hx.froz 3; have f4 := hx.froz 4; have f5 := hx.froz 5
    have HX2 := Lib.hid (hx.set 5 (.slice x' m.length cap'))
    have HB2 := Lib.hid (HB.out.setCell (p := ⟨w.heap.size, 5, none⟩) (Nat.le_refl _) (.slice x' m.length cap'))
    have HY3 := Lib.hid (HY2.out.other w.heap.size 5 (.slice x' m.length cap') (by omega))
    clear b2 hx HX HY HA HB HY2 C1
    go_wp2_with fail
    refine (C2.out _ HB2.out).mono ?_
    rintro en w3 ⟨v3, rfl, hv3, ho3, b3⟩
    have HB3 := Lib.hid (bt HB2.out b3)
    have hx := HX2.out.next b3
    have hy := HY3.out.next b3
    have hlt := hy.lt
    have hlt0 := hx.lt
    obtain ⟨x3, n3, cap3, rfl⟩ : ∃ x n c, v3 = .slice x n c := by obtain ⟨x3, cap3, h0, _⟩ := hv3; exact ⟨_, _, _, h0⟩
    clear hv3 ho3
    simp only [List.set_cons_zero, List.set_cons_succ] at hx
    clear k0 k1 k2 k3 k4 k5 f0 f1 f2 f3 f4 f5
    have k0 := hx.cell 0; have k1 := hx.cell 1; have k2 := hx.cell 2; have k3 := hx.cell 3; have k4 := hx.cell 4; have k5 := hx.cell 5
    simp only [List.getElem?_cons_zero, List.getElem?_cons_succ] at k0 k1 k2 k3 k4 k5
    have f0 := hx.froz 0; have f1 := hx.froz 1; have f2 := hx.froz 2; have f3 := hx.froz 3; have f4 := hx.froz 4; have f5 := hx.froz 5
    have hy4 := Bx.others (b' := w.heap.size) hy (by omega) (.int .i64 0) (.int .i64 0) (.int .i64 0) (.int .i64 0) (.int .i64 0) ((.slice x3 n3 cap3))
    have z0 := hy4.cell 0; have z1 := hy4.cell 1; have z2 := hy4.cell 2; have z3 := hy4.cell 3; have z4 := hy4.cell 4; have z5 := hy4.cell 5
    simp only [List.getElem?_cons_zero, List.getElem?_cons_succ] at z0 z1 z2 z3 z4 z5
    have g0 := hy4.froz 0; have g1 := hy4.froz 1; have g2 := hy4.froz 2; have g3 := hy4.froz 3; have g4 := hy4.froz 4; have g5 := hy4.froz 5
    have HB4 := Lib.hid (below6 HB3.out (b := w.heap.size) (by omega) (.int .i64 0) (.int .i64 0) (.int .i64 0) (.int .i64 0) (.int .i64 0) ((.slice x3 n3 cap3)))
    have HY4 := Lib.hid hy4
    clear hy4 z0 z1 z2 z3 z4 z5 g0 g1 g2 g3 g4 g5 hx hy b3 HX2 HB2 HY3 C2 HB3 C3
    go_upto_region 4 with (fail)
    generalize (((((w3.setCell ⟨w.heap.size, 0, none⟩ (.int .i64 0)).setCell ⟨w.heap.size, 1, none⟩ (.int .i64 0)).setCell ⟨w.heap.size, 2, none⟩ (.int .i64 0)).setCell ⟨w.heap.size, 3, none⟩ (.int .i64 0)).setCell ⟨w.heap.size, 4, none⟩ (.int .i64 0)).setCell ⟨w.heap.size, 5, none⟩ ((.slice x3 n3 cap3)) = W3 at HB4 HY4 ⊢
    clear k0 k1 k2 k3 k4 k5 f0 f1 f2 f3 f4 f5
    have hy := HY4.out
    have hlt := hy.lt
    have z0 := hy.cell 0; have z1 := hy.cell 1; have z2 := hy.cell 2; have z3 := hy.cell 3; have z4 := hy.cell 4; have z5 := hy.cell 5
    simp only [List.getElem?_cons_zero, List.getElem?_cons_succ] at z0 z1 z2 z3 z4 z5
    have g0 := hy.froz 0; have g1 := hy.froz 1; have g2 := hy.froz 2; have g3 := hy.froz 3; have g4 := hy.froz 4; have g5 := hy.froz 5
    clear hy
    go_wp2
    have P := Pb.put HY4.out ⟨0, 0, 0, 0, 0⟩ (.slice none 0 0)
    have Q := below6 HB4.out (b := w.heap.size + 1) (by omega) (.int .i64 0) (.int .i64 0) (.int .i64 0) (.int .i64 0) (.int .i64 0) ((.slice none 0 0))
    generalize (((((W3.setCell ⟨w.heap.size + 1, 0, none⟩ (.int .i64 0)).setCell ⟨w.heap.size + 1, 1, none⟩ (.int .i64 0)).setCell ⟨w.heap.size + 1, 2, none⟩ (.int .i64 0)).setCell ⟨w.heap.size + 1, 3, none⟩ (.int .i64 0)).setCell ⟨w.heap.size + 1, 4, none⟩ (.int .i64 0)).setCell ⟨w.heap.size + 1, 5, none⟩ ((.slice none 0 0)) = W2 at P Q ⊢
    have y0 := P.cell 0; have y1 := P.cell 1; have y2 := P.cell 2; have y3 := P.cell 3; have y4 := P.cell 4; have y5 := P.cell 5
    simp only [List.getElem?_cons_zero, List.getElem?_cons_succ] at y0 y1 y2 y3 y4 y5
    refine bodyPost_ret (v := .tuple #[aP ⟨0, 0, 0, 0, 0⟩ (.slice none 0 0), .int .i64 0, .int .i64 E]) (by simp [results, Try.results28, go_sem, y0, y1, y2, y3, y4, y5]) rfl ⟨_, rfl, rd_nil _, fun _ _ _ => off_nil _, Q⟩
end Pa
end Go.Proofs.Ytdacnefklcmckaa
