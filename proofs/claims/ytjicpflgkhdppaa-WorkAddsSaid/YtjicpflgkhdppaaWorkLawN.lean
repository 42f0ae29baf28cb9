/- Days of work: the statements. (gen_work3.py) -/
import Derived.Test.YtjicpflgkhdppaaWorkTells
set_option linter.unusedSimpArgs false
set_option linter.unusedVariables false
namespace Go.Proofs.Ytjicpflgkhdppaa
open Go.RowKit
namespace Wk
open Dt
set_option maxRecDepth 100000 in
set_option maxHeartbeats 8000000 in
theorem next_walk (rest : List Bool) (hr : rest.length = 7) (v : Value) (rules : List Rl) (n k : Int) (w : World) (h : RdE elRl w v rules) : Calls Try.prog 7 #[cV rest v, .int .i64 n, .int .i64 k] w (RetB (.bool true) w) := by
  have HRD := Lib.hid h
  have hle := h.len_le
  obtain ⟨a, cap, rfl, g1, g2, g3⟩ := h
  clear g3
  obtain ⟨b0, b1, b2, b3, b4, b5, b6, hbs⟩ := len7 hr
  have hcv : cV rest (.slice a rules.length cap) = .agg #[.bool b0, .bool b1, .bool b2, .bool b3, .bool b4, .bool b5, .bool b6, .slice a rules.length cap] := by rw [hbs]; rfl
  have HB0 := Lib.hid ((br w).alloc (Nat.le_refl _) (.cells #[.bool b0, .bool b1, .bool b2, .bool b3, .bool b4, .bool b5, .bool b6, .slice a rules.length cap] 25))
  have HX0 := Lib.hid (Box.new w 25 (calB b0 b1 b2 b3 b4 b5 b6 (.slice a rules.length cap)))
  have CG : RowKit.Hid (∀ w, Calls Try.prog 14 #[] w fun e w' => e = .returned (.bool true) ∧ Below w.heap.size w w') := Lib.hid (fun w => begun_any w)
  have K0 : RowKit.Hid (∀ w', Below w.heap.size w w' → Calls Try.prog 21 #[cV rest (.slice a rules.length cap), .int .i64 n] w' (RetB (.tuple #[.int .i64 (nextP rest rules n).1, .int .i64 (nextP rest rules n).2]) w')) := Lib.hid (fun w' hb => nextP_any rest hr _ rules n w' (HRD.out.below hb))
  have K1 : RowKit.Hid (∀ q w', Below w.heap.size w w' → Calls Try.prog 20 #[cV rest (.slice a rules.length cap), .int .i64 q] w' (RetB (.tuple #[.bool (isP rest rules q).1, .int .i64 (isP rest rules q).2]) w')) := Lib.hid (fun q w' hb => isP_any rest hr _ rules q w' (HRD.out.below hb))
  have hlaw := nextP_law rest rules n
  rw [hcv] at K0 K1 ⊢
  unfold RetB at K0 K1
  obtain ⟨A, hA⟩ : ∃ A, nextP rest rules n = A := ⟨_, rfl⟩
  rw [hA] at K0 hlaw
  clear hA hbs hcv hr
  obtain ⟨x, e⟩ := A
  simp only at K0 hlaw
  rcases hlaw with ⟨h1, rfl⟩ | ⟨rfl, h2, h3, h4⟩
  · have he : (e == 0) = false := by simpa using h1
    clear h1
    go_enter Try.func7, Try.ntmps7
    go_wp2_with fail
    refine (K0.out _ HB0.out).mono ?_
    rintro en w1 ⟨rfl, q1⟩
    have HB1 := Lib.hid (bt HB0.out q1)
    have HX1 := Lib.hid (HX0.out.next q1)
    clear q1
    have hbx := HX1.out
    have c0 := hbx.cell 0; have c1 := hbx.cell 1; have c2 := hbx.cell 2; have c3 := hbx.cell 3; have c4 := hbx.cell 4; have c5 := hbx.cell 5; have c6 := hbx.cell 6; have c7 := hbx.cell 7
    simp only [List.getElem?_cons_zero, List.getElem?_cons_succ] at c0 c1 c2 c3 c4 c5 c6 c7
    clear hbx
    go_wp2_with fail
    refine (CG.out _).mono ?_
    rintro en w2 ⟨rfl, q2⟩
    have HB2 := Lib.hid (bt HB1.out q2)
    have HX2 := Lib.hid (HX1.out.next q2)
    clear c0 c1 c2 c3 c4 c5 c6 c7
    clear q2
    have hbx := HX2.out
    have c0 := hbx.cell 0; have c1 := hbx.cell 1; have c2 := hbx.cell 2; have c3 := hbx.cell 3; have c4 := hbx.cell 4; have c5 := hbx.cell 5; have c6 := hbx.cell 6; have c7 := hbx.cell 7
    simp only [List.getElem?_cons_zero, List.getElem?_cons_succ] at c0 c1 c2 c3 c4 c5 c6 c7
    clear hbx
    go_wp2
    go_ret
    exact ⟨by first | rfl | (simp; done), HB2.out⟩
  · have K2 := Lib.hid (K1.out x)
    have H4 := Lib.hid (fun g1 g2 => (h4 k g1 g2))
    rw [h3] at K2
    clear h3 h4
    have hx : ¬ x < n := by omega
    by_cases k1 : k < n
    · go_enter Try.func7, Try.ntmps7
      go_wp2_with fail
      refine (K0.out _ HB0.out).mono ?_
      rintro en w1 ⟨rfl, q1⟩
      have HB1 := Lib.hid (bt HB0.out q1)
      have HX1 := Lib.hid (HX0.out.next q1)
      clear q1
      have hbx := HX1.out
      have c0 := hbx.cell 0; have c1 := hbx.cell 1; have c2 := hbx.cell 2; have c3 := hbx.cell 3; have c4 := hbx.cell 4; have c5 := hbx.cell 5; have c6 := hbx.cell 6; have c7 := hbx.cell 7
      simp only [List.getElem?_cons_zero, List.getElem?_cons_succ] at c0 c1 c2 c3 c4 c5 c6 c7
      clear hbx
      go_wp2_with fail
      refine (CG.out _).mono ?_
      rintro en w2 ⟨rfl, q2⟩
      have HB2 := Lib.hid (bt HB1.out q2)
      have HX2 := Lib.hid (HX1.out.next q2)
      clear c0 c1 c2 c3 c4 c5 c6 c7
      clear q2
      have hbx := HX2.out
      have c0 := hbx.cell 0; have c1 := hbx.cell 1; have c2 := hbx.cell 2; have c3 := hbx.cell 3; have c4 := hbx.cell 4; have c5 := hbx.cell 5; have c6 := hbx.cell 6; have c7 := hbx.cell 7
      simp only [List.getElem?_cons_zero, List.getElem?_cons_succ] at c0 c1 c2 c3 c4 c5 c6 c7
      clear hbx
      go_wp2_with fail
      refine (K2.out _ HB2.out).mono ?_
      rintro en w3 ⟨rfl, q3⟩
      have HB3 := Lib.hid (bt HB2.out q3)
      have HX3 := Lib.hid (HX2.out.next q3)
      clear c0 c1 c2 c3 c4 c5 c6 c7
      clear q3
      have hbx := HX3.out
      have c0 := hbx.cell 0; have c1 := hbx.cell 1; have c2 := hbx.cell 2; have c3 := hbx.cell 3; have c4 := hbx.cell 4; have c5 := hbx.cell 5; have c6 := hbx.cell 6; have c7 := hbx.cell 7
      simp only [List.getElem?_cons_zero, List.getElem?_cons_succ] at c0 c1 c2 c3 c4 c5 c6 c7
      clear hbx
      go_wp2
      go_ret
      exact ⟨by first | rfl | (simp; done), HB3.out⟩
    by_cases k2 : x ≤ k
    · go_enter Try.func7, Try.ntmps7
      go_wp2_with fail
      refine (K0.out _ HB0.out).mono ?_
      rintro en w1 ⟨rfl, q1⟩
      have HB1 := Lib.hid (bt HB0.out q1)
      have HX1 := Lib.hid (HX0.out.next q1)
      clear q1
      have hbx := HX1.out
      have c0 := hbx.cell 0; have c1 := hbx.cell 1; have c2 := hbx.cell 2; have c3 := hbx.cell 3; have c4 := hbx.cell 4; have c5 := hbx.cell 5; have c6 := hbx.cell 6; have c7 := hbx.cell 7
      simp only [List.getElem?_cons_zero, List.getElem?_cons_succ] at c0 c1 c2 c3 c4 c5 c6 c7
      clear hbx
      go_wp2_with fail
      refine (CG.out _).mono ?_
      rintro en w2 ⟨rfl, q2⟩
      have HB2 := Lib.hid (bt HB1.out q2)
      have HX2 := Lib.hid (HX1.out.next q2)
      clear c0 c1 c2 c3 c4 c5 c6 c7
      clear q2
      have hbx := HX2.out
      have c0 := hbx.cell 0; have c1 := hbx.cell 1; have c2 := hbx.cell 2; have c3 := hbx.cell 3; have c4 := hbx.cell 4; have c5 := hbx.cell 5; have c6 := hbx.cell 6; have c7 := hbx.cell 7
      simp only [List.getElem?_cons_zero, List.getElem?_cons_succ] at c0 c1 c2 c3 c4 c5 c6 c7
      clear hbx
      go_wp2_with fail
      refine (K2.out _ HB2.out).mono ?_
      rintro en w3 ⟨rfl, q3⟩
      have HB3 := Lib.hid (bt HB2.out q3)
      have HX3 := Lib.hid (HX2.out.next q3)
      clear c0 c1 c2 c3 c4 c5 c6 c7
      clear q3
      have hbx := HX3.out
      have c0 := hbx.cell 0; have c1 := hbx.cell 1; have c2 := hbx.cell 2; have c3 := hbx.cell 3; have c4 := hbx.cell 4; have c5 := hbx.cell 5; have c6 := hbx.cell 6; have c7 := hbx.cell 7
      simp only [List.getElem?_cons_zero, List.getElem?_cons_succ] at c0 c1 c2 c3 c4 c5 c6 c7
      clear hbx
      go_wp2
      go_ret
      exact ⟨by first | rfl | (simp; done), HB3.out⟩
    have K3 := Lib.hid (K1.out k)
    rw [H4.out (by omega) (by omega)] at K3
    go_enter Try.func7, Try.ntmps7
    go_wp2_with fail
    refine (K0.out _ HB0.out).mono ?_
    rintro en w1 ⟨rfl, q1⟩
    have HB1 := Lib.hid (bt HB0.out q1)
    have HX1 := Lib.hid (HX0.out.next q1)
    clear q1
    have hbx := HX1.out
    have c0 := hbx.cell 0; have c1 := hbx.cell 1; have c2 := hbx.cell 2; have c3 := hbx.cell 3; have c4 := hbx.cell 4; have c5 := hbx.cell 5; have c6 := hbx.cell 6; have c7 := hbx.cell 7
    simp only [List.getElem?_cons_zero, List.getElem?_cons_succ] at c0 c1 c2 c3 c4 c5 c6 c7
    clear hbx
    go_wp2_with fail
    refine (CG.out _).mono ?_
    rintro en w2 ⟨rfl, q2⟩
    have HB2 := Lib.hid (bt HB1.out q2)
    have HX2 := Lib.hid (HX1.out.next q2)
    clear c0 c1 c2 c3 c4 c5 c6 c7
    clear q2
    have hbx := HX2.out
    have c0 := hbx.cell 0; have c1 := hbx.cell 1; have c2 := hbx.cell 2; have c3 := hbx.cell 3; have c4 := hbx.cell 4; have c5 := hbx.cell 5; have c6 := hbx.cell 6; have c7 := hbx.cell 7
    simp only [List.getElem?_cons_zero, List.getElem?_cons_succ] at c0 c1 c2 c3 c4 c5 c6 c7
    clear hbx
    go_wp2_with fail
    refine (K2.out _ HB2.out).mono ?_
    rintro en w3 ⟨rfl, q3⟩
    have HB3 := Lib.hid (bt HB2.out q3)
    have HX3 := Lib.hid (HX2.out.next q3)
    clear c0 c1 c2 c3 c4 c5 c6 c7
    clear q3
    have hbx := HX3.out
    have c0 := hbx.cell 0; have c1 := hbx.cell 1; have c2 := hbx.cell 2; have c3 := hbx.cell 3; have c4 := hbx.cell 4; have c5 := hbx.cell 5; have c6 := hbx.cell 6; have c7 := hbx.cell 7
    simp only [List.getElem?_cons_zero, List.getElem?_cons_succ] at c0 c1 c2 c3 c4 c5 c6 c7
    clear hbx
    go_wp2_with fail
    refine (K3.out _ HB3.out).mono ?_
    rintro en w4 ⟨rfl, q4⟩
    have HB4 := Lib.hid (bt HB3.out q4)
    have HX4 := Lib.hid (HX3.out.next q4)
    clear c0 c1 c2 c3 c4 c5 c6 c7
    clear q4
    have hbx := HX4.out
    have c0 := hbx.cell 0; have c1 := hbx.cell 1; have c2 := hbx.cell 2; have c3 := hbx.cell 3; have c4 := hbx.cell 4; have c5 := hbx.cell 5; have c6 := hbx.cell 6; have c7 := hbx.cell 7
    simp only [List.getElem?_cons_zero, List.getElem?_cons_succ] at c0 c1 c2 c3 c4 c5 c6 c7
    clear hbx
    go_wp2
    go_ret
    exact ⟨by first | rfl | (simp; done), HB4.out⟩
end Wk
end Go.Proofs.Ytjicpflgkhdppaa
