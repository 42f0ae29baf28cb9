/- Days of work: the statements. (gen_work3.py) -/
import Derived.Test.YtjicpflgkhdppaaWorkTells
set_option linter.unusedSimpArgs false
set_option linter.unusedVariables false
namespace Go.Proofs.Ytjicpflgkhdppaa
open Go.RowKit
namespace Wk
open Dt
set_option maxRecDepth 100000 in
set_option maxHeartbeats 8000000 in
theorem adds_walk (rest : List Bool) (hr : rest.length = 7) (v : Value) (rules : List Rl) (n p q : Int) (w : World) (h : RdE elRl w v rules) : Calls Try.prog 4 #[cV rest v, .int .i64 n, .int .i64 p, .int .i64 q] w (RetB (.bool true) w) := by
  have HRD := Lib.hid h
  have hle := h.len_le
  obtain ⟨a, cap, rfl, g1, g2, g3⟩ := h
  clear g3
  obtain ⟨b0, b1, b2, b3, b4, b5, b6, hbs⟩ := len7 hr
  have hcv : cV rest (.slice a rules.length cap) = .agg #[.bool b0, .bool b1, .bool b2, .bool b3, .bool b4, .bool b5, .bool b6, .slice a rules.length cap] := by rw [hbs]; rfl
  have HB0 := Lib.hid ((br w).alloc (Nat.le_refl _) (.cells #[.bool b0, .bool b1, .bool b2, .bool b3, .bool b4, .bool b5, .bool b6, .slice a rules.length cap] 25))
  have HX0 := Lib.hid (Box.new w 25 (calB b0 b1 b2 b3 b4 b5 b6 (.slice a rules.length cap)))
  have CG : RowKit.Hid (∀ w, Calls Try.prog 14 #[] w fun e w' => e = .returned (.bool true) ∧ Below w.heap.size w w') := Lib.hid (fun w => begun_any w)
  have K0 : RowKit.Hid (∀ w', Below w.heap.size w w' → Calls Try.prog 18 #[cV rest (.slice a rules.length cap), .int .i64 n, .int .i64 (p + q)] w' (RetB (.tuple #[.int .i64 (addP rest rules n (p + q)).1, .int .i64 (addP rest rules n (p + q)).2]) w')) := Lib.hid (fun w' hb => addP_any rest hr _ rules n (p + q) w' (HRD.out.below hb))
  have K1 : RowKit.Hid (∀ w', Below w.heap.size w w' → Calls Try.prog 18 #[cV rest (.slice a rules.length cap), .int .i64 n, .int .i64 p] w' (RetB (.tuple #[.int .i64 (addP rest rules n p).1, .int .i64 (addP rest rules n p).2]) w')) := Lib.hid (fun w' hb => addP_any rest hr _ rules n p w' (HRD.out.below hb))
  have K2 : RowKit.Hid (∀ k w', Below w.heap.size w w' → Calls Try.prog 18 #[cV rest (.slice a rules.length cap), .int .i64 k, .int .i64 q] w' (RetB (.tuple #[.int .i64 (addP rest rules k q).1, .int .i64 (addP rest rules k q).2]) w')) := Lib.hid (fun k w' hb => addP_any rest hr _ rules k q w' (HRD.out.below hb))
  have K3 : RowKit.Hid (∀ k w', Below w.heap.size w w' → Calls Try.prog 19 #[cV rest (.slice a rules.length cap), .int .i64 (n + 1), .int .i64 (k + 1)] w' (RetB (.tuple #[.int .i64 (countP rest rules (n + 1) (k + 1)).1, .int .i64 (countP rest rules (n + 1) (k + 1)).2]) w')) := Lib.hid (fun k w' hb => countP_any rest hr _ rules (n + 1) (k + 1) w' (HRD.out.below hb))
  have HERR := Lib.hid (addP_err0 rest rules n (p + q))
  have HLAW := Lib.hid (fun x h1 h2 h3 => addP_law rest rules n p q x h1 h2 h3)
  rw [hcv] at K0 K1 K2 K3 ⊢
  unfold RetB at K0 K1 K2 K3
  clear hbs hcv hr
  by_cases p1 : p < 0
  · go_enter Try.func4, Try.ntmps4
    go_wp2_with fail
    refine (CG.out _).mono ?_
    rintro en w1 ⟨rfl, q1⟩
    have HB1 := Lib.hid (bt HB0.out q1)
    have HX1 := Lib.hid (HX0.out.next q1)
    clear q1
    have hbx := HX1.out
    have c0 := hbx.cell 0; have c1 := hbx.cell 1; have c2 := hbx.cell 2; have c3 := hbx.cell 3; have c4 := hbx.cell 4; have c5 := hbx.cell 5; have c6 := hbx.cell 6; have c7 := hbx.cell 7
    simp only [List.getElem?_cons_zero, List.getElem?_cons_succ] at c0 c1 c2 c3 c4 c5 c6 c7
    clear hbx
    go_wp2
    go_ret
    exact ⟨by first | rfl | (simp; done), HB1.out⟩
  by_cases q1 : q < 0
  · go_enter Try.func4, Try.ntmps4
    go_wp2_with fail
    refine (CG.out _).mono ?_
    rintro en w1 ⟨rfl, q1⟩
    have HB1 := Lib.hid (bt HB0.out q1)
    have HX1 := Lib.hid (HX0.out.next q1)
    clear q1
    have hbx := HX1.out
    have c0 := hbx.cell 0; have c1 := hbx.cell 1; have c2 := hbx.cell 2; have c3 := hbx.cell 3; have c4 := hbx.cell 4; have c5 := hbx.cell 5; have c6 := hbx.cell 6; have c7 := hbx.cell 7
    simp only [List.getElem?_cons_zero, List.getElem?_cons_succ] at c0 c1 c2 c3 c4 c5 c6 c7
    clear hbx
    go_wp2
    go_ret
    exact ⟨by first | rfl | (simp; done), HB1.out⟩
  by_cases p2 : 400 < p
  · go_enter Try.func4, Try.ntmps4
    go_wp2_with fail
    refine (CG.out _).mono ?_
    rintro en w1 ⟨rfl, q1⟩
    have HB1 := Lib.hid (bt HB0.out q1)
    have HX1 := Lib.hid (HX0.out.next q1)
    clear q1
    have hbx := HX1.out
    have c0 := hbx.cell 0; have c1 := hbx.cell 1; have c2 := hbx.cell 2; have c3 := hbx.cell 3; have c4 := hbx.cell 4; have c5 := hbx.cell 5; have c6 := hbx.cell 6; have c7 := hbx.cell 7
    simp only [List.getElem?_cons_zero, List.getElem?_cons_succ] at c0 c1 c2 c3 c4 c5 c6 c7
    clear hbx
    go_wp2
    go_ret
    exact ⟨by first | rfl | (simp; done), HB1.out⟩
  by_cases q2 : 400 - p < q
  · go_enter Try.func4, Try.ntmps4
    go_wp2_with fail
    refine (CG.out _).mono ?_
    rintro en w1 ⟨rfl, q1⟩
    have HB1 := Lib.hid (bt HB0.out q1)
    have HX1 := Lib.hid (HX0.out.next q1)
    clear q1
    have hbx := HX1.out
    have c0 := hbx.cell 0; have c1 := hbx.cell 1; have c2 := hbx.cell 2; have c3 := hbx.cell 3; have c4 := hbx.cell 4; have c5 := hbx.cell 5; have c6 := hbx.cell 6; have c7 := hbx.cell 7
    simp only [List.getElem?_cons_zero, List.getElem?_cons_succ] at c0 c1 c2 c3 c4 c5 c6 c7
    clear hbx
    go_wp2
    go_ret
    exact ⟨by first | rfl | (simp; done), HB1.out⟩
  have HL2 := Lib.hid (fun x => HLAW.out x (by omega) (by omega) (by omega))
  clear HLAW
  obtain ⟨s, hs⟩ : ∃ s, p + q = s := ⟨_, rfl⟩
  rw [hs] at K0 HERR HL2
  have s0 : 0 ≤ s := by omega
  have s1 : s ≤ 400 := by omega
  obtain ⟨A, hA⟩ : ∃ A, addP rest rules n s = A := ⟨_, rfl⟩
  rw [hA] at K0 HERR HL2
  clear hA
  obtain ⟨x, e⟩ := A
  simp only at K0 HERR
  by_cases he : e = 0
  · subst he
    obtain ⟨y, y1, y2, n1, n2, x2, n0, hcnt⟩ := HL2.out x rfl
    have K4 := Lib.hid (K2.out y)
    have K5 := Lib.hid (K3.out x)
    rw [y1] at K1
    rw [y2] at K4
    clear y1 y2 HERR HL2 K2 K3
    obtain ⟨D, hD⟩ : ∃ D, countP rest rules (n + 1) (x + 1) = D := ⟨_, rfl⟩
    rw [hD] at K5 hcnt
    clear hD
    obtain ⟨D1, D2⟩ := D
    simp only at K5 K1 K4 hcnt
    rcases hcnt with rfl | rfl | hcnt
    · go_enter Try.func4, Try.ntmps4
      go_wp2_with fail
      refine (CG.out _).mono ?_
      rintro en w1 ⟨rfl, q1⟩
      have HB1 := Lib.hid (bt HB0.out q1)
      have HX1 := Lib.hid (HX0.out.next q1)
      clear q1
      have hbx := HX1.out
      have c0 := hbx.cell 0; have c1 := hbx.cell 1; have c2 := hbx.cell 2; have c3 := hbx.cell 3; have c4 := hbx.cell 4; have c5 := hbx.cell 5; have c6 := hbx.cell 6; have c7 := hbx.cell 7
      simp only [List.getElem?_cons_zero, List.getElem?_cons_succ] at c0 c1 c2 c3 c4 c5 c6 c7
      clear hbx
      go_wp2_with fail
      refine (K0.out _ HB1.out).mono ?_
      rintro en w2 ⟨rfl, q2⟩
      have HB2 := Lib.hid (bt HB1.out q2)
      have HX2 := Lib.hid (HX1.out.next q2)
      clear c0 c1 c2 c3 c4 c5 c6 c7
      clear q2
      have hbx := HX2.out
      have c0 := hbx.cell 0; have c1 := hbx.cell 1; have c2 := hbx.cell 2; have c3 := hbx.cell 3; have c4 := hbx.cell 4; have c5 := hbx.cell 5; have c6 := hbx.cell 6; have c7 := hbx.cell 7
      simp only [List.getElem?_cons_zero, List.getElem?_cons_succ] at c0 c1 c2 c3 c4 c5 c6 c7
      clear hbx
      go_wp2_with fail
      refine (K1.out _ HB2.out).mono ?_
      rintro en w3 ⟨rfl, q3⟩
      have HB3 := Lib.hid (bt HB2.out q3)
      have HX3 := Lib.hid (HX2.out.next q3)
      clear c0 c1 c2 c3 c4 c5 c6 c7
      clear q3
      have hbx := HX3.out
      have c0 := hbx.cell 0; have c1 := hbx.cell 1; have c2 := hbx.cell 2; have c3 := hbx.cell 3; have c4 := hbx.cell 4; have c5 := hbx.cell 5; have c6 := hbx.cell 6; have c7 := hbx.cell 7
      simp only [List.getElem?_cons_zero, List.getElem?_cons_succ] at c0 c1 c2 c3 c4 c5 c6 c7
      clear hbx
      go_wp2_with fail
      refine (K4.out _ HB3.out).mono ?_
      rintro en w4 ⟨rfl, q4⟩
      have HB4 := Lib.hid (bt HB3.out q4)
      have HX4 := Lib.hid (HX3.out.next q4)
      clear c0 c1 c2 c3 c4 c5 c6 c7
      clear q4
      have hbx := HX4.out
      have c0 := hbx.cell 0; have c1 := hbx.cell 1; have c2 := hbx.cell 2; have c3 := hbx.cell 3; have c4 := hbx.cell 4; have c5 := hbx.cell 5; have c6 := hbx.cell 6; have c7 := hbx.cell 7
      simp only [List.getElem?_cons_zero, List.getElem?_cons_succ] at c0 c1 c2 c3 c4 c5 c6 c7
      clear hbx
      go_wp2_with fail
      refine (K5.out _ HB4.out).mono ?_
      rintro en w5 ⟨rfl, q5⟩
      have HB5 := Lib.hid (bt HB4.out q5)
      have HX5 := Lib.hid (HX4.out.next q5)
      clear c0 c1 c2 c3 c4 c5 c6 c7
      clear q5
      have hbx := HX5.out
      have c0 := hbx.cell 0; have c1 := hbx.cell 1; have c2 := hbx.cell 2; have c3 := hbx.cell 3; have c4 := hbx.cell 4; have c5 := hbx.cell 5; have c6 := hbx.cell 6; have c7 := hbx.cell 7
      simp only [List.getElem?_cons_zero, List.getElem?_cons_succ] at c0 c1 c2 c3 c4 c5 c6 c7
      clear hbx
      go_wp2
      go_ret
      exact ⟨by first | rfl | (simp; done), HB5.out⟩
    · go_enter Try.func4, Try.ntmps4
      go_wp2_with fail
      refine (CG.out _).mono ?_
      rintro en w1 ⟨rfl, q1⟩
      have HB1 := Lib.hid (bt HB0.out q1)
      have HX1 := Lib.hid (HX0.out.next q1)
      clear q1
      have hbx := HX1.out
      have c0 := hbx.cell 0; have c1 := hbx.cell 1; have c2 := hbx.cell 2; have c3 := hbx.cell 3; have c4 := hbx.cell 4; have c5 := hbx.cell 5; have c6 := hbx.cell 6; have c7 := hbx.cell 7
      simp only [List.getElem?_cons_zero, List.getElem?_cons_succ] at c0 c1 c2 c3 c4 c5 c6 c7
      clear hbx
      go_wp2_with fail
      refine (K0.out _ HB1.out).mono ?_
      rintro en w2 ⟨rfl, q2⟩
      have HB2 := Lib.hid (bt HB1.out q2)
      have HX2 := Lib.hid (HX1.out.next q2)
      clear c0 c1 c2 c3 c4 c5 c6 c7
      clear q2
      have hbx := HX2.out
      have c0 := hbx.cell 0; have c1 := hbx.cell 1; have c2 := hbx.cell 2; have c3 := hbx.cell 3; have c4 := hbx.cell 4; have c5 := hbx.cell 5; have c6 := hbx.cell 6; have c7 := hbx.cell 7
      simp only [List.getElem?_cons_zero, List.getElem?_cons_succ] at c0 c1 c2 c3 c4 c5 c6 c7
      clear hbx
      go_wp2_with fail
      refine (K1.out _ HB2.out).mono ?_
      rintro en w3 ⟨rfl, q3⟩
      have HB3 := Lib.hid (bt HB2.out q3)
      have HX3 := Lib.hid (HX2.out.next q3)
      clear c0 c1 c2 c3 c4 c5 c6 c7
      clear q3
      have hbx := HX3.out
      have c0 := hbx.cell 0; have c1 := hbx.cell 1; have c2 := hbx.cell 2; have c3 := hbx.cell 3; have c4 := hbx.cell 4; have c5 := hbx.cell 5; have c6 := hbx.cell 6; have c7 := hbx.cell 7
      simp only [List.getElem?_cons_zero, List.getElem?_cons_succ] at c0 c1 c2 c3 c4 c5 c6 c7
      clear hbx
      go_wp2_with fail
      refine (K4.out _ HB3.out).mono ?_
      rintro en w4 ⟨rfl, q4⟩
      have HB4 := Lib.hid (bt HB3.out q4)
      have HX4 := Lib.hid (HX3.out.next q4)
      clear c0 c1 c2 c3 c4 c5 c6 c7
      clear q4
      have hbx := HX4.out
      have c0 := hbx.cell 0; have c1 := hbx.cell 1; have c2 := hbx.cell 2; have c3 := hbx.cell 3; have c4 := hbx.cell 4; have c5 := hbx.cell 5; have c6 := hbx.cell 6; have c7 := hbx.cell 7
      simp only [List.getElem?_cons_zero, List.getElem?_cons_succ] at c0 c1 c2 c3 c4 c5 c6 c7
      clear hbx
      go_wp2_with fail
      refine (K5.out _ HB4.out).mono ?_
      rintro en w5 ⟨rfl, q5⟩
      have HB5 := Lib.hid (bt HB4.out q5)
      have HX5 := Lib.hid (HX4.out.next q5)
      clear c0 c1 c2 c3 c4 c5 c6 c7
      clear q5
      have hbx := HX5.out
      have c0 := hbx.cell 0; have c1 := hbx.cell 1; have c2 := hbx.cell 2; have c3 := hbx.cell 3; have c4 := hbx.cell 4; have c5 := hbx.cell 5; have c6 := hbx.cell 6; have c7 := hbx.cell 7
      simp only [List.getElem?_cons_zero, List.getElem?_cons_succ] at c0 c1 c2 c3 c4 c5 c6 c7
      clear hbx
      go_wp2
      go_ret
      exact ⟨by first | rfl | (simp; done), HB5.out⟩
    · injection hcnt with d1 d2
      subst d1 d2
      go_enter Try.func4, Try.ntmps4
      go_wp2_with fail
      refine (CG.out _).mono ?_
      rintro en w1 ⟨rfl, q1⟩
      have HB1 := Lib.hid (bt HB0.out q1)
      have HX1 := Lib.hid (HX0.out.next q1)
      clear q1
      have hbx := HX1.out
      have c0 := hbx.cell 0; have c1 := hbx.cell 1; have c2 := hbx.cell 2; have c3 := hbx.cell 3; have c4 := hbx.cell 4; have c5 := hbx.cell 5; have c6 := hbx.cell 6; have c7 := hbx.cell 7
      simp only [List.getElem?_cons_zero, List.getElem?_cons_succ] at c0 c1 c2 c3 c4 c5 c6 c7
      clear hbx
      go_wp2_with fail
      refine (K0.out _ HB1.out).mono ?_
      rintro en w2 ⟨rfl, q2⟩
      have HB2 := Lib.hid (bt HB1.out q2)
      have HX2 := Lib.hid (HX1.out.next q2)
      clear c0 c1 c2 c3 c4 c5 c6 c7
      clear q2
      have hbx := HX2.out
      have c0 := hbx.cell 0; have c1 := hbx.cell 1; have c2 := hbx.cell 2; have c3 := hbx.cell 3; have c4 := hbx.cell 4; have c5 := hbx.cell 5; have c6 := hbx.cell 6; have c7 := hbx.cell 7
      simp only [List.getElem?_cons_zero, List.getElem?_cons_succ] at c0 c1 c2 c3 c4 c5 c6 c7
      clear hbx
      go_wp2_with fail
      refine (K1.out _ HB2.out).mono ?_
      rintro en w3 ⟨rfl, q3⟩
      have HB3 := Lib.hid (bt HB2.out q3)
      have HX3 := Lib.hid (HX2.out.next q3)
      clear c0 c1 c2 c3 c4 c5 c6 c7
      clear q3
      have hbx := HX3.out
      have c0 := hbx.cell 0; have c1 := hbx.cell 1; have c2 := hbx.cell 2; have c3 := hbx.cell 3; have c4 := hbx.cell 4; have c5 := hbx.cell 5; have c6 := hbx.cell 6; have c7 := hbx.cell 7
      simp only [List.getElem?_cons_zero, List.getElem?_cons_succ] at c0 c1 c2 c3 c4 c5 c6 c7
      clear hbx
      go_wp2_with fail
      refine (K4.out _ HB3.out).mono ?_
      rintro en w4 ⟨rfl, q4⟩
      have HB4 := Lib.hid (bt HB3.out q4)
      have HX4 := Lib.hid (HX3.out.next q4)
      clear c0 c1 c2 c3 c4 c5 c6 c7
      clear q4
      have hbx := HX4.out
      have c0 := hbx.cell 0; have c1 := hbx.cell 1; have c2 := hbx.cell 2; have c3 := hbx.cell 3; have c4 := hbx.cell 4; have c5 := hbx.cell 5; have c6 := hbx.cell 6; have c7 := hbx.cell 7
      simp only [List.getElem?_cons_zero, List.getElem?_cons_succ] at c0 c1 c2 c3 c4 c5 c6 c7
      clear hbx
      go_wp2_with fail
      refine (K5.out _ HB4.out).mono ?_
      rintro en w5 ⟨rfl, q5⟩
      have HB5 := Lib.hid (bt HB4.out q5)
      have HX5 := Lib.hid (HX4.out.next q5)
      clear c0 c1 c2 c3 c4 c5 c6 c7
      clear q5
      have hbx := HX5.out
      have c0 := hbx.cell 0; have c1 := hbx.cell 1; have c2 := hbx.cell 2; have c3 := hbx.cell 3; have c4 := hbx.cell 4; have c5 := hbx.cell 5; have c6 := hbx.cell 6; have c7 := hbx.cell 7
      simp only [List.getElem?_cons_zero, List.getElem?_cons_succ] at c0 c1 c2 c3 c4 c5 c6 c7
      clear hbx
      go_wp2
      go_ret
      exact ⟨by first | rfl | (simp; done), HB5.out⟩
  · have hx := HERR.out he
    subst hx
    have he2 : (e == 0) = false := by simpa using he
    clear HERR HL2
    go_enter Try.func4, Try.ntmps4
    go_wp2_with fail
    refine (CG.out _).mono ?_
    rintro en w1 ⟨rfl, q1⟩
    have HB1 := Lib.hid (bt HB0.out q1)
    have HX1 := Lib.hid (HX0.out.next q1)
    clear q1
    have hbx := HX1.out
    have c0 := hbx.cell 0; have c1 := hbx.cell 1; have c2 := hbx.cell 2; have c3 := hbx.cell 3; have c4 := hbx.cell 4; have c5 := hbx.cell 5; have c6 := hbx.cell 6; have c7 := hbx.cell 7
    simp only [List.getElem?_cons_zero, List.getElem?_cons_succ] at c0 c1 c2 c3 c4 c5 c6 c7
    clear hbx
    go_wp2_with fail
    refine (K0.out _ HB1.out).mono ?_
    rintro en w2 ⟨rfl, q2⟩
    have HB2 := Lib.hid (bt HB1.out q2)
    have HX2 := Lib.hid (HX1.out.next q2)
    clear c0 c1 c2 c3 c4 c5 c6 c7
    clear q2
    have hbx := HX2.out
    have c0 := hbx.cell 0; have c1 := hbx.cell 1; have c2 := hbx.cell 2; have c3 := hbx.cell 3; have c4 := hbx.cell 4; have c5 := hbx.cell 5; have c6 := hbx.cell 6; have c7 := hbx.cell 7
    simp only [List.getElem?_cons_zero, List.getElem?_cons_succ] at c0 c1 c2 c3 c4 c5 c6 c7
    clear hbx
    go_wp2
    go_ret
    exact ⟨by first | rfl | (simp; done), HB2.out⟩
end Wk
end Go.Proofs.Ytjicpflgkhdppaa
