/- Days of work: the statements. (gen_work3.py) -/
import Derived.Test.YtjicpflgkhdppaaWorkTells
set_option linter.unusedSimpArgs false
set_option linter.unusedVariables false
namespace Go.Proofs.Ytjicpflgkhdppaa
open Go.RowKit
namespace Wk
open Dt
set_option maxRecDepth 100000 in
set_option maxHeartbeats 8000000 in
theorem counts_walk (rest : List Bool) (hr : rest.length = 7) (v : Value) (rules : List Rl) (x m y : Int) (w : World) (h : RdE elRl w v rules) : Calls Try.prog 5 #[cV rest v, .int .i64 x, .int .i64 m, .int .i64 y] w (RetB (.bool true) w) := by
  have HRD := Lib.hid h
  have hle := h.len_le
  obtain ⟨a, cap, rfl, g1, g2, g3⟩ := h
  clear g3
  obtain ⟨b0, b1, b2, b3, b4, b5, b6, hbs⟩ := len7 hr
  have hcv : cV rest (.slice a rules.length cap) = .agg #[.bool b0, .bool b1, .bool b2, .bool b3, .bool b4, .bool b5, .bool b6, .slice a rules.length cap] := by rw [hbs]; rfl
  have HB0 := Lib.hid ((br w).alloc (Nat.le_refl _) (.cells #[.bool b0, .bool b1, .bool b2, .bool b3, .bool b4, .bool b5, .bool b6, .slice a rules.length cap] 25))
  have HX0 := Lib.hid (Box.new w 25 (calB b0 b1 b2 b3 b4 b5 b6 (.slice a rules.length cap)))
  have CG : RowKit.Hid (∀ w, Calls Try.prog 14 #[] w fun e w' => e = .returned (.bool true) ∧ Below w.heap.size w w') := Lib.hid (fun w => begun_any w)
  have K0 : RowKit.Hid (∀ w', Below w.heap.size w w' → Calls Try.prog 19 #[cV rest (.slice a rules.length cap), .int .i64 x, .int .i64 y] w' (RetB (.tuple #[.int .i64 (countP rest rules x y).1, .int .i64 (countP rest rules x y).2]) w')) := Lib.hid (fun w' hb => countP_any rest hr _ rules x y w' (HRD.out.below hb))
  have K1 : RowKit.Hid (∀ w', Below w.heap.size w w' → Calls Try.prog 19 #[cV rest (.slice a rules.length cap), .int .i64 x, .int .i64 m] w' (RetB (.tuple #[.int .i64 (countP rest rules x m).1, .int .i64 (countP rest rules x m).2]) w')) := Lib.hid (fun w' hb => countP_any rest hr _ rules x m w' (HRD.out.below hb))
  have K2 : RowKit.Hid (∀ w', Below w.heap.size w w' → Calls Try.prog 19 #[cV rest (.slice a rules.length cap), .int .i64 m, .int .i64 y] w' (RetB (.tuple #[.int .i64 (countP rest rules m y).1, .int .i64 (countP rest rules m y).2]) w')) := Lib.hid (fun w' hb => countP_any rest hr _ rules m y w' (HRD.out.below hb))
  have hlaw := countP_law rest rules x y
  rw [hcv] at K0 K1 K2 ⊢
  unfold RetB at K0 K1 K2
  have HM := Lib.hid (fun (h : (countP rest rules x y).2 = 0 ∧ x ≤ m ∧ m ≤ y) => by
    rcases hlaw with ⟨h1, _⟩ | ⟨_, _, _, _, _, _, h7⟩
    · exact absurd h.1 h1
    · exact h7 m h.2.1 h.2.2)
  obtain ⟨A, hA⟩ : ∃ A, countP rest rules x y = A := ⟨_, rfl⟩
  rw [hA] at K0 hlaw HM
  obtain ⟨B, hB⟩ : ∃ B, countP rest rules x m = B := ⟨_, rfl⟩
  rw [hB] at K1 HM
  obtain ⟨D, hD⟩ : ∃ D, countP rest rules m y = D := ⟨_, rfl⟩
  rw [hD] at K2 HM
  clear hA hB hD hbs hcv hr
  obtain ⟨A1, A2⟩ := A
  obtain ⟨B1, B2⟩ := B
  obtain ⟨D1, D2⟩ := D
  simp only at K0 K1 K2 hlaw HM
  rcases hlaw with ⟨h1, rfl⟩ | ⟨rfl, h2, h3, h4, h5, h6, _⟩
  · have he : (A2 == 0) = false := by simpa using h1
    clear h1
    go_enter Try.func5, Try.ntmps5
    go_wp2_with fail
    refine (K0.out _ HB0.out).mono ?_
    rintro en w1 ⟨rfl, q1⟩
    have HB1 := Lib.hid (bt HB0.out q1)
    have HX1 := Lib.hid (HX0.out.next q1)
    clear q1
    have hbx := HX1.out
    have c0 := hbx.cell 0; have c1 := hbx.cell 1; have c2 := hbx.cell 2; have c3 := hbx.cell 3; have c4 := hbx.cell 4; have c5 := hbx.cell 5; have c6 := hbx.cell 6; have c7 := hbx.cell 7
    simp only [List.getElem?_cons_zero, List.getElem?_cons_succ] at c0 c1 c2 c3 c4 c5 c6 c7
    clear hbx
    go_wp2_with fail
    refine (CG.out _).mono ?_
    rintro en w2 ⟨rfl, q2⟩
    have HB2 := Lib.hid (bt HB1.out q2)
    have HX2 := Lib.hid (HX1.out.next q2)
    clear c0 c1 c2 c3 c4 c5 c6 c7
    clear q2
    have hbx := HX2.out
    have c0 := hbx.cell 0; have c1 := hbx.cell 1; have c2 := hbx.cell 2; have c3 := hbx.cell 3; have c4 := hbx.cell 4; have c5 := hbx.cell 5; have c6 := hbx.cell 6; have c7 := hbx.cell 7
    simp only [List.getElem?_cons_zero, List.getElem?_cons_succ] at c0 c1 c2 c3 c4 c5 c6 c7
    clear hbx
    go_wp2
    go_ret
    exact ⟨by first | rfl | (simp; done), HB2.out⟩
  · have n1 : ¬ A1 < 0 := by omega
    have n2 : ¬ y - x < A1 := by omega
    by_cases m1 : m < x
    · go_enter Try.func5, Try.ntmps5
      go_wp2_with fail
      refine (K0.out _ HB0.out).mono ?_
      rintro en w1 ⟨rfl, q1⟩
      have HB1 := Lib.hid (bt HB0.out q1)
      have HX1 := Lib.hid (HX0.out.next q1)
      clear q1
      have hbx := HX1.out
      have c0 := hbx.cell 0; have c1 := hbx.cell 1; have c2 := hbx.cell 2; have c3 := hbx.cell 3; have c4 := hbx.cell 4; have c5 := hbx.cell 5; have c6 := hbx.cell 6; have c7 := hbx.cell 7
      simp only [List.getElem?_cons_zero, List.getElem?_cons_succ] at c0 c1 c2 c3 c4 c5 c6 c7
      clear hbx
      go_wp2_with fail
      refine (CG.out _).mono ?_
      rintro en w2 ⟨rfl, q2⟩
      have HB2 := Lib.hid (bt HB1.out q2)
      have HX2 := Lib.hid (HX1.out.next q2)
      clear c0 c1 c2 c3 c4 c5 c6 c7
      clear q2
      have hbx := HX2.out
      have c0 := hbx.cell 0; have c1 := hbx.cell 1; have c2 := hbx.cell 2; have c3 := hbx.cell 3; have c4 := hbx.cell 4; have c5 := hbx.cell 5; have c6 := hbx.cell 6; have c7 := hbx.cell 7
      simp only [List.getElem?_cons_zero, List.getElem?_cons_succ] at c0 c1 c2 c3 c4 c5 c6 c7
      clear hbx
      go_wp2
      go_ret
      exact ⟨by first | rfl | (simp; done), HB2.out⟩
    by_cases m2 : y < m
    · go_enter Try.func5, Try.ntmps5
      go_wp2_with fail
      refine (K0.out _ HB0.out).mono ?_
      rintro en w1 ⟨rfl, q1⟩
      have HB1 := Lib.hid (bt HB0.out q1)
      have HX1 := Lib.hid (HX0.out.next q1)
      clear q1
      have hbx := HX1.out
      have c0 := hbx.cell 0; have c1 := hbx.cell 1; have c2 := hbx.cell 2; have c3 := hbx.cell 3; have c4 := hbx.cell 4; have c5 := hbx.cell 5; have c6 := hbx.cell 6; have c7 := hbx.cell 7
      simp only [List.getElem?_cons_zero, List.getElem?_cons_succ] at c0 c1 c2 c3 c4 c5 c6 c7
      clear hbx
      go_wp2_with fail
      refine (CG.out _).mono ?_
      rintro en w2 ⟨rfl, q2⟩
      have HB2 := Lib.hid (bt HB1.out q2)
      have HX2 := Lib.hid (HX1.out.next q2)
      clear c0 c1 c2 c3 c4 c5 c6 c7
      clear q2
      have hbx := HX2.out
      have c0 := hbx.cell 0; have c1 := hbx.cell 1; have c2 := hbx.cell 2; have c3 := hbx.cell 3; have c4 := hbx.cell 4; have c5 := hbx.cell 5; have c6 := hbx.cell 6; have c7 := hbx.cell 7
      simp only [List.getElem?_cons_zero, List.getElem?_cons_succ] at c0 c1 c2 c3 c4 c5 c6 c7
      clear hbx
      go_wp2
      go_ret
      exact ⟨by first | rfl | (simp; done), HB2.out⟩
    obtain ⟨rfl, rfl, hs⟩ := HM.out ⟨rfl, by omega, by omega⟩
    subst hs
    clear HM
    have hs1 : 0 ≤ B1 + D1 := by omega
    have hs2 : B1 + D1 ≤ 3651693 := by omega
    go_enter Try.func5, Try.ntmps5
    go_wp2_with fail
    refine (K0.out _ HB0.out).mono ?_
    rintro en w1 ⟨rfl, q1⟩
    have HB1 := Lib.hid (bt HB0.out q1)
    have HX1 := Lib.hid (HX0.out.next q1)
    clear q1
    have hbx := HX1.out
    have c0 := hbx.cell 0; have c1 := hbx.cell 1; have c2 := hbx.cell 2; have c3 := hbx.cell 3; have c4 := hbx.cell 4; have c5 := hbx.cell 5; have c6 := hbx.cell 6; have c7 := hbx.cell 7
    simp only [List.getElem?_cons_zero, List.getElem?_cons_succ] at c0 c1 c2 c3 c4 c5 c6 c7
    clear hbx
    go_wp2_with fail
    refine (CG.out _).mono ?_
    rintro en w2 ⟨rfl, q2⟩
    have HB2 := Lib.hid (bt HB1.out q2)
    have HX2 := Lib.hid (HX1.out.next q2)
    clear c0 c1 c2 c3 c4 c5 c6 c7
    clear q2
    have hbx := HX2.out
    have c0 := hbx.cell 0; have c1 := hbx.cell 1; have c2 := hbx.cell 2; have c3 := hbx.cell 3; have c4 := hbx.cell 4; have c5 := hbx.cell 5; have c6 := hbx.cell 6; have c7 := hbx.cell 7
    simp only [List.getElem?_cons_zero, List.getElem?_cons_succ] at c0 c1 c2 c3 c4 c5 c6 c7
    clear hbx
    go_wp2_with fail
    refine (K1.out _ HB2.out).mono ?_
    rintro en w3 ⟨rfl, q3⟩
    have HB3 := Lib.hid (bt HB2.out q3)
    have HX3 := Lib.hid (HX2.out.next q3)
    clear c0 c1 c2 c3 c4 c5 c6 c7
    clear q3
    have hbx := HX3.out
    have c0 := hbx.cell 0; have c1 := hbx.cell 1; have c2 := hbx.cell 2; have c3 := hbx.cell 3; have c4 := hbx.cell 4; have c5 := hbx.cell 5; have c6 := hbx.cell 6; have c7 := hbx.cell 7
    simp only [List.getElem?_cons_zero, List.getElem?_cons_succ] at c0 c1 c2 c3 c4 c5 c6 c7
    clear hbx
    go_wp2_with fail
    refine (K2.out _ HB3.out).mono ?_
    rintro en w4 ⟨rfl, q4⟩
    have HB4 := Lib.hid (bt HB3.out q4)
    have HX4 := Lib.hid (HX3.out.next q4)
    clear c0 c1 c2 c3 c4 c5 c6 c7
    clear q4
    have hbx := HX4.out
    have c0 := hbx.cell 0; have c1 := hbx.cell 1; have c2 := hbx.cell 2; have c3 := hbx.cell 3; have c4 := hbx.cell 4; have c5 := hbx.cell 5; have c6 := hbx.cell 6; have c7 := hbx.cell 7
    simp only [List.getElem?_cons_zero, List.getElem?_cons_succ] at c0 c1 c2 c3 c4 c5 c6 c7
    clear hbx
    go_wp2
    go_ret
    exact ⟨by first | rfl | (simp; done), HB4.out⟩
end Wk
end Go.Proofs.Ytjicpflgkhdppaa
