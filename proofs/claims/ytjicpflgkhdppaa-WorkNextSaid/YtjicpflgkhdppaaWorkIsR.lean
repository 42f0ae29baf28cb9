/- Days of work: is a day one, in the document. -/
import Derived.Test.YtjicpflgkhdppaaWorkHolR
set_option linter.unusedSimpArgs false
set_option linter.unusedVariables false
namespace Go.Proofs.Ytjicpflgkhdppaa
open Go.RowKit
namespace Wk
open Dt
set_option maxRecDepth 100000 in
set_option maxHeartbeats 4000000 in
theorem isWR_core (b0 b1 b2 b3 b4 b5 b6 : Bool) (a : Option Addr) (len cap : Nat) (n Y m d W : Int) (q p0 p1 : Bool) (w : World) (hW1 : 0 ≤ W) (hW2 : W < 7) (hq : [b0, b1, b2, b3, b4, b5, b6].getD W.toNat false = q)
    (C1 : RowKit.Hid (∀ w, Calls Try.prog 70 #[.int .i64 n] w fun e w' => e = .returned (.tuple #[.agg #[.int .i64 Y, .int .i64 m, .int .i64 d], .int .i64 0]) ∧ Below w.heap.size w w'))
    (C2 : RowKit.Hid (∀ w, Calls Try.prog 71 #[.int .i64 n] w fun e w' => e = .returned (.int .i64 (W + 1)) ∧ w = w'))
    (C3 : RowKit.Hid (∀ w', Below w.heap.size w w' → Calls Try.prog 39 #[.agg #[.bool b0, .bool b1, .bool b2, .bool b3, .bool b4, .bool b5, .bool b6, .slice a len cap], .int .i64 Y, .int .i64 n] w' (RetB (.bool p0) w')))
    (C4 : RowKit.Hid (∀ w', Below w.heap.size w w' → Calls Try.prog 39 #[.agg #[.bool b0, .bool b1, .bool b2, .bool b3, .bool b4, .bool b5, .bool b6, .slice a len cap], .int .i64 (Y - 1), .int .i64 n] w' (RetB (.bool p1) w'))) (hY1 : 1 ≤ Y) (hY2 : Y ≤ 9999) :
    Calls Try.prog 49 #[.agg #[.bool b0, .bool b1, .bool b2, .bool b3, .bool b4, .bool b5, .bool b6, .slice a len cap], .int .i64 n] w (RetB (.bool (!q && !p0 && !p1)) w) := by
  have HX := Lib.hid (Box.new w 25 (calB b0 b1 b2 b3 b4 b5 b6 (.slice a len cap)))
  have HB0 := Lib.hid ((br w).alloc (Nat.le_refl _) (calO b0 b1 b2 b3 b4 b5 b6 (.slice a len cap)))
  obtain ⟨j, rfl⟩ : ∃ j : Nat, W = j := ⟨W.toNat, by omega⟩
  rw [Int.toNat_natCast] at hq
  have hj : j < 7 := by omega
  unfold RetB at C3 C4
  go_enter Try.func49, Try.ntmps49
  go_wp2_with fail
  refine (C1.out _).mono ?_
  rintro en w1 ⟨rfl, b1'⟩
  have HB1 := Lib.hid (bt HB0.out b1')
  have HX1 := Lib.hid (HX.out.next b1')
  clear b1' HX HB0
  go_wp2_with fail
  refine (C2.out _).mono ?_
  rintro en w2 ⟨rfl, e2⟩
  subst e2
  have HB2 := Lib.hid (HB1.out.alloc HB1.out.size (.cells #[.int .i64 Y, .int .i64 m, .int .i64 d] 46))
  have hx2 := HX1.out.alloc (.cells #[.int .i64 Y, .int .i64 m, .int .i64 d] 46)
  have hy2 := Box.new w1 46 [.int .i64 Y, .int .i64 m, .int .i64 d]
  have HX2 := Lib.hid hx2; have HY2 := Lib.hid hy2
  have hcell := cal_cell hx2 j hj
  rw [hq] at hcell
  have c0 := hx2.cell 0; have c1 := hx2.cell 1; have c2 := hx2.cell 2; have c3 := hx2.cell 3; have c4 := hx2.cell 4; have c5 := hx2.cell 5; have c6 := hx2.cell 6; have c7 := hx2.cell 7
  simp only [List.getElem?_cons_zero, List.getElem?_cons_succ] at c0 c1 c2 c3 c4 c5 c6 c7
  clear hx2 hy2 hq
  cases q with
  | true =>
    go_wp2
    go_ret
    exact ⟨by first | rfl | (simp; done), HB2.out⟩
  | false =>
    cases p0 with
    | true =>
      go_wp2_with fail
      refine (C3.out _ HB2.out).mono ?_
      rintro en w3 ⟨rfl, b3'⟩
      have HB3 := Lib.hid (bt HB2.out b3')
      clear b3'
      go_wp2
      go_ret
      exact ⟨by first | rfl | (simp; done), HB3.out⟩
    | false =>
      go_wp2_with fail
      refine (C3.out _ HB2.out).mono ?_
      rintro en w3 ⟨rfl, b3'⟩
      have HB3 := Lib.hid (bt HB2.out b3')
      have hx3 := HX2.out.next b3'
      have hy3 := HY2.out.next b3'
      have e0 := hx3.cell 0; have e1 := hx3.cell 1; have e2 := hx3.cell 2; have e3 := hx3.cell 3; have e4 := hx3.cell 4; have e5 := hx3.cell 5; have e6 := hx3.cell 6; have e7 := hx3.cell 7
      have f0 := hy3.cell 0
      simp only [List.getElem?_cons_zero, List.getElem?_cons_succ] at e0 e1 e2 e3 e4 e5 e6 e7 f0
      clear b3' hx3 hy3 c0 c1 c2 c3 c4 c5 c6 c7 hcell
      go_wp2_with fail
      refine (C4.out _ HB3.out).mono ?_
      rintro en w4 ⟨rfl, b4'⟩
      have HB4 := Lib.hid (bt HB3.out b4')
      clear b4'
      go_wp2
      go_ret
      exact ⟨by first | rfl | (simp; done), HB4.out⟩
theorem isWR_any (rest : List Bool) (v : Value) (rules : List Rl) (hc : Cal rest rules) (n : Int) (h1 : 1 ≤ n) (h2 : n ≤ 3651693) (w : World) (h : RdE elRl w v rules) : Calls Try.prog 49 #[cV rest v, .int .i64 n] w (RetB (.bool (isW rest rules n)) w) := by
  have HRD := Lib.hid h
  obtain ⟨a, cap, rfl, g1, g2, g3⟩ := h
  obtain ⟨y1, y2, _, _⟩ := yearOf_bd n h1 (by omega)
  obtain ⟨u1, u2⟩ := wd_bd n
  have hof : ofF n = (dateOf n, 0) := by unfold ofF; rw [if_pos ⟨h1, by omega⟩]
  obtain ⟨b0, b1, b2, b3, b4, b5, b6, hbs⟩ := len7 hc.len
  have hcv : cV rest (.slice a rules.length cap) = .agg #[.bool b0, .bool b1, .bool b2, .bool b3, .bool b4, .bool b5, .bool b6, .slice a rules.length cap] := by rw [hbs]; rfl
  have := isWR_core b0 b1 b2 b3 b4 b5 b6 a rules.length cap n (yearOf n) (dateOf n).2.1 (dateOf n).2.2 (wd n - 1) (isRest rest n) (isHol rest rules (yearOf n) n) (isHol rest rules (yearOf n - 1) n) w (by omega) (by omega) (by unfold isRest; rw [hbs]) (Lib.hid fun w => ?_) (Lib.hid fun w => ?_) (Lib.hid fun w' hb => ?_) (Lib.hid fun w' hb => ?_) y1 y2
  · rw [hcv]; exact this
  · have := dateOfR_any n w
    unfold OfQ at this
    rw [hof] at this
    exact this
  · have := dayOfWeek_any n w h1 (by omega)
    rwa [show wd n = wd n - 1 + 1 by omega] at this
  · rw [← hcv]; exact isHolR_any rest _ rules hc _ n (by omega) w' (HRD.out.below hb) (by omega)
  · rw [← hcv]; exact isHolR_any rest _ rules hc _ n (by omega) w' (HRD.out.below hb) (by omega)
end Wk
end Go.Proofs.Ytjicpflgkhdppaa
