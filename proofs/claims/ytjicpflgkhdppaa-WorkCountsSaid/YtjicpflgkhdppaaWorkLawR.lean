/- Days of work: the statements. (gen_work3.py) -/
import Derived.Test.YtjicpflgkhdppaaWorkTells
set_option linter.unusedSimpArgs false
set_option linter.unusedVariables false
namespace Go.Proofs.Ytjicpflgkhdppaa
open Go.RowKit
namespace Wk
open Dt
theorem rest_law (rest : List Bool) (rules : List Rl) (n : Int) (h0 : calE rest rules = 0) (hn : inB n = true) (hw : isW rest rules n = true) : isRest rest n = false ∧ ∀ y, y = yearOf n - 1 ∨ y = yearOf n → n ∉ (holF rest rules y).1 ∧ (1 ≤ y → (holF rest rules y).2 = 0) := by
  obtain ⟨n1, n2⟩ := (inB_iff n).1 hn
  unfold isW at hw
  simp only [Bool.and_eq_true, Bool.not_eq_true'] at hw
  obtain ⟨⟨w1, w2⟩, w3⟩ := hw
  obtain ⟨y1, y2, y3, y4⟩ := yearOf_bd n n1 (by omega)
  have y5 : yearOf n ≤ 9998 := by
    by_cases c : yearOf n ≤ 9998
    · exact c
    · have : yearOf n = 9999 := by omega
      rw [this] at y3
      have hd : dby 9999 = 3651694 := by decide
      omega
  refine ⟨w1, fun y hy => ?_⟩
  have hh : isHol rest rules y n = false := by rcases hy with rfl | rfl <;> assumption
  by_cases c : y < 1 ∨ 9998 < y
  · have e : holF rest rules y = ([], 3) := by unfold holF; rw [if_neg (fun h => h h0), if_pos c]
    rw [e]
    exact ⟨by simp, fun h => by omega⟩
  · have e : holF rest rules y = (hol rest rules y, 0) := by unfold holF; rw [if_neg (fun h => h h0), if_neg c]
    rw [e]
    refine ⟨fun h => ?_, fun _ => rfl⟩
    rw [hol_mem] at h
    unfold isHol at hh
    rw [decide_eq_true (by omega), Bool.true_and] at hh
    have : (days rest rules y).contains n = true := by rw [List.contains_iff_mem]; exact h
    rw [this] at hh; cases hh
set_option maxRecDepth 100000 in
set_option maxHeartbeats 8000000 in
theorem rests_no (rest : List Bool) (hr : rest.length = 7) (v : Value) (rules : List Rl) (n : Int) (w : World) (h : RdE elRl w v rules) (hlaw : (isP rest rules n).1 = false) : Calls Try.prog 8 #[cV rest v, .int .i64 n] w (RetB (.bool true) w) := by
  have HRD := Lib.hid h
  have hle := h.len_le
  obtain ⟨a, cap, rfl, g1, g2, g3⟩ := h
  clear g3
  obtain ⟨b0, b1, b2, b3, b4, b5, b6, hbs⟩ := len7 hr
  have hcv : cV rest (.slice a rules.length cap) = .agg #[.bool b0, .bool b1, .bool b2, .bool b3, .bool b4, .bool b5, .bool b6, .slice a rules.length cap] := by rw [hbs]; rfl
  have HB0 := Lib.hid ((br w).alloc (Nat.le_refl _) (.cells #[.bool b0, .bool b1, .bool b2, .bool b3, .bool b4, .bool b5, .bool b6, .slice a rules.length cap] 25))
  have HX0 := Lib.hid (Box.new w 25 (calB b0 b1 b2 b3 b4 b5 b6 (.slice a rules.length cap)))
  have CG : RowKit.Hid (∀ w, Calls Try.prog 14 #[] w fun e w' => e = .returned (.bool true) ∧ Below w.heap.size w w') := Lib.hid (fun w => begun_any w)
  have K0 : RowKit.Hid (∀ w', Below w.heap.size w w' → Calls Try.prog 20 #[cV rest (.slice a rules.length cap), .int .i64 n] w' (RetB (.tuple #[.bool (isP rest rules n).1, .int .i64 (isP rest rules n).2]) w')) := Lib.hid (fun w' hb => isP_any rest hr _ rules n w' (HRD.out.below hb))
  rw [hcv] at K0 ⊢
  unfold RetB at K0
  obtain ⟨A, hA⟩ : ∃ A, isP rest rules n = A := ⟨_, rfl⟩
  rw [hA] at K0 hlaw
  clear hA hbs hcv hr
  obtain ⟨x, e⟩ := A
  simp only at K0 hlaw
  subst hlaw
  by_cases he : e = 0
  · subst he
    go_enter Try.func8, Try.ntmps8
    go_wp2_with fail
    refine (K0.out _ HB0.out).mono ?_
    rintro en w1 ⟨rfl, q1⟩
    have HB1 := Lib.hid (bt HB0.out q1)
    have HX1 := Lib.hid (HX0.out.next q1)
    clear q1
    have hbx := HX1.out
    have c0 := hbx.cell 0; have c1 := hbx.cell 1; have c2 := hbx.cell 2; have c3 := hbx.cell 3; have c4 := hbx.cell 4; have c5 := hbx.cell 5; have c6 := hbx.cell 6; have c7 := hbx.cell 7
    simp only [List.getElem?_cons_zero, List.getElem?_cons_succ] at c0 c1 c2 c3 c4 c5 c6 c7
    clear hbx
    go_wp2_with fail
    refine (CG.out _).mono ?_
    rintro en w2 ⟨rfl, q2⟩
    have HB2 := Lib.hid (bt HB1.out q2)
    have HX2 := Lib.hid (HX1.out.next q2)
    clear c0 c1 c2 c3 c4 c5 c6 c7
    clear q2
    have hbx := HX2.out
    have c0 := hbx.cell 0; have c1 := hbx.cell 1; have c2 := hbx.cell 2; have c3 := hbx.cell 3; have c4 := hbx.cell 4; have c5 := hbx.cell 5; have c6 := hbx.cell 6; have c7 := hbx.cell 7
    simp only [List.getElem?_cons_zero, List.getElem?_cons_succ] at c0 c1 c2 c3 c4 c5 c6 c7
    clear hbx
    go_wp2
    go_ret
    exact ⟨by first | rfl | (simp; done), HB2.out⟩
  · have he2 : (e == 0) = false := by simpa using he
    go_enter Try.func8, Try.ntmps8
    go_wp2_with fail
    refine (K0.out _ HB0.out).mono ?_
    rintro en w1 ⟨rfl, q1⟩
    have HB1 := Lib.hid (bt HB0.out q1)
    have HX1 := Lib.hid (HX0.out.next q1)
    clear q1
    have hbx := HX1.out
    have c0 := hbx.cell 0; have c1 := hbx.cell 1; have c2 := hbx.cell 2; have c3 := hbx.cell 3; have c4 := hbx.cell 4; have c5 := hbx.cell 5; have c6 := hbx.cell 6; have c7 := hbx.cell 7
    simp only [List.getElem?_cons_zero, List.getElem?_cons_succ] at c0 c1 c2 c3 c4 c5 c6 c7
    clear hbx
    go_wp2_with fail
    refine (CG.out _).mono ?_
    rintro en w2 ⟨rfl, q2⟩
    have HB2 := Lib.hid (bt HB1.out q2)
    have HX2 := Lib.hid (HX1.out.next q2)
    clear c0 c1 c2 c3 c4 c5 c6 c7
    clear q2
    have hbx := HX2.out
    have c0 := hbx.cell 0; have c1 := hbx.cell 1; have c2 := hbx.cell 2; have c3 := hbx.cell 3; have c4 := hbx.cell 4; have c5 := hbx.cell 5; have c6 := hbx.cell 6; have c7 := hbx.cell 7
    simp only [List.getElem?_cons_zero, List.getElem?_cons_succ] at c0 c1 c2 c3 c4 c5 c6 c7
    clear hbx
    go_wp2
    go_ret
    exact ⟨by first | rfl | (simp; done), HB2.out⟩
set_option maxRecDepth 100000 in
set_option maxHeartbeats 8000000 in
theorem rests_core (rest : List Bool) (hr : rest.length = 7) (v : Value) (rules : List Rl) (n Y m d wy wk W : Int) (w : World) (h : RdE elRl w v rules) (hW1 : 1 ≤ W) (hW2 : W ≤ 7) (hq : rest.getD (W - 1).toNat false = false) (hY1 : 1 ≤ Y) (hY2 : Y ≤ 9999) (hP : isP rest rules n = (true, 0))
    (K1 : RowKit.Hid (∀ w, Calls Try.prog 26 #[.int .i64 n] w fun e w' => e = .returned (.tuple #[.agg #[.int .i64 wy, .int .i64 wk, .int .i64 W], .int .i64 0]) ∧ Below w.heap.size w w'))
    (K2 : RowKit.Hid (∀ w, Calls Try.prog 27 #[.int .i64 n] w fun e w' => e = .returned (.tuple #[.agg #[.int .i64 Y, .int .i64 m, .int .i64 d], .int .i64 0]) ∧ Below w.heap.size w w'))
    (HL : RowKit.Hid (∀ y, y = Y - 1 ∨ y = Y → n ∉ (holF rest rules y).1 ∧ (1 ≤ y → (holF rest rules y).2 = 0))) : Calls Try.prog 8 #[cV rest v, .int .i64 n] w (RetB (.bool true) w) := by
  have HRD := Lib.hid h
  have hle := h.len_le
  obtain ⟨a, cap, rfl, g1, g2, g3⟩ := h
  clear g3
  obtain ⟨b0, b1, b2, b3, b4, b5, b6, hbs⟩ := len7 hr
  have hcv : cV rest (.slice a rules.length cap) = .agg #[.bool b0, .bool b1, .bool b2, .bool b3, .bool b4, .bool b5, .bool b6, .slice a rules.length cap] := by rw [hbs]; rfl
  have HB0 := Lib.hid ((br w).alloc (Nat.le_refl _) (.cells #[.bool b0, .bool b1, .bool b2, .bool b3, .bool b4, .bool b5, .bool b6, .slice a rules.length cap] 25))
  have HX0 := Lib.hid (Box.new w 25 (calB b0 b1 b2 b3 b4 b5 b6 (.slice a rules.length cap)))
  have CG : RowKit.Hid (∀ w, Calls Try.prog 14 #[] w fun e w' => e = .returned (.bool true) ∧ Below w.heap.size w w') := Lib.hid (fun w => begun_any w)
  have K0 : RowKit.Hid (∀ w', Below w.heap.size w w' → Calls Try.prog 20 #[cV rest (.slice a rules.length cap), .int .i64 n] w' (RetB (.tuple #[.bool (isP rest rules n).1, .int .i64 (isP rest rules n).2]) w')) := Lib.hid (fun w' hb => isP_any rest hr _ rules n w' (HRD.out.below hb))
  have K3 : RowKit.Hid (∀ y w', Below w.heap.size w w' → Calls Try.prog 12 #[cV rest (.slice a rules.length cap), .int .i64 y] w' (fun e w'' => ∃ u, e = .returned (.tuple #[u, .int .i64 (holF rest rules y).2]) ∧ RdE elZ w'' u (holF rest rules y).1 ∧ Below w'.heap.size w' w'')) := Lib.hid (fun y w' hb => hol_any rest hr _ rules y w' (HRD.out.below hb))
  rw [hcv] at K0 K3 ⊢
  rw [hP] at K0
  unfold RetB at K0
  rw [hbs] at hq
  clear hbs hcv hr hP
  obtain ⟨j, rfl⟩ : ∃ j : Nat, W = (j : Int) + 1 := ⟨(W - 1).toNat, by omega⟩
  have ej : ((j : Int) + 1 - 1) = (j : Int) := by omega
  rw [ej, Int.toNat_natCast] at hq
  have hj : j < 7 := by omega
  go_enter Try.func8, Try.ntmps8
  go_wp2_with fail
  refine (K0.out _ HB0.out).mono ?_
  rintro en w1 ⟨rfl, q1⟩
  have HB1 := Lib.hid (bt HB0.out q1)
  have HX1 := Lib.hid (HX0.out.next q1)
  clear q1
  have hbx := HX1.out
  have c0 := hbx.cell 0; have c1 := hbx.cell 1; have c2 := hbx.cell 2; have c3 := hbx.cell 3; have c4 := hbx.cell 4; have c5 := hbx.cell 5; have c6 := hbx.cell 6; have c7 := hbx.cell 7
  simp only [List.getElem?_cons_zero, List.getElem?_cons_succ] at c0 c1 c2 c3 c4 c5 c6 c7
  clear hbx
  go_wp2_with fail
  refine (CG.out _).mono ?_
  rintro en w2 ⟨rfl, q2⟩
  have HB2 := Lib.hid (bt HB1.out q2)
  have HX2 := Lib.hid (HX1.out.next q2)
  clear c0 c1 c2 c3 c4 c5 c6 c7
  clear q2
  have hbx := HX2.out
  have c0 := hbx.cell 0; have c1 := hbx.cell 1; have c2 := hbx.cell 2; have c3 := hbx.cell 3; have c4 := hbx.cell 4; have c5 := hbx.cell 5; have c6 := hbx.cell 6; have c7 := hbx.cell 7
  simp only [List.getElem?_cons_zero, List.getElem?_cons_succ] at c0 c1 c2 c3 c4 c5 c6 c7
  clear hbx
  go_wp2_with fail
  refine (K1.out _).mono ?_
  rintro en w3 ⟨rfl, q3⟩
  have HB3 := Lib.hid (bt HB2.out q3)
  have HX3 := Lib.hid (HX2.out.next q3)
  clear c0 c1 c2 c3 c4 c5 c6 c7
  clear q3
  have HW3 := Lib.hid (Box.new w3 42 [.int .i64 wy, .int .i64 wk, .int .i64 ((j : Int) + 1)])
  have q4 := (br w3).alloc (Nat.le_refl _) (.cells #[.int .i64 wy, .int .i64 wk, .int .i64 ((j : Int) + 1)] 42)
  have HB4 := Lib.hid (bt HB3.out q4)
  have HX4 := Lib.hid (HX3.out.next q4)
  clear q4
  go_wp2_with fail
  refine (K2.out _).mono ?_
  rintro en w5 ⟨rfl, q5⟩
  have HB5 := Lib.hid (bt HB4.out q5)
  have HX5 := Lib.hid (HX4.out.next q5)
  have HW5 := Lib.hid (HW3.out.next q5)
  clear q5
  have HD5 := Lib.hid (Box.new w5 46 [.int .i64 Y, .int .i64 m, .int .i64 d])
  have q6 := (br w5).alloc (Nat.le_refl _) (.cells #[.int .i64 Y, .int .i64 m, .int .i64 d] 46)
  have HB6 := Lib.hid (bt HB5.out q6)
  have HX6 := Lib.hid (HX5.out.next q6)
  have HW6 := Lib.hid (HW5.out.next q6)
  clear q6
  have hx6 := HX6.out
  have hcell := cal_cell hx6 j hj
  rw [hq] at hcell
  have e2 := HW6.out.cell 2
  have f0 := HD5.out.cell 0
  simp only [List.getElem?_cons_zero, List.getElem?_cons_succ] at e2 f0
  clear hx6 HB3 HB4 HB5 HX3 HX4 HX5 HW3 HW5 hq K0 K1 K2
  have y0 : -1 ≤ Y - 1 := by omega
  go_wp2
  go_loopw [11] (fun i wr => ∃ t : Nat, t ≤ 2 ∧ i = .int .i64 (Y - 1 + t) ∧ Below w.heap.size w wr ∧ Box wr w.heap.size 25 (calB b0 b1 b2 b3 b4 b5 b6 (.slice a rules.length cap)) ∧ Box wr w5.heap.size 46 [.int .i64 Y, .int .i64 m, .int .i64 d]) (fun i _ => (Y + 1 - intOf i).toNat)
  case atStart => exact ⟨0, by omega, by simp, HB6.out, HX6.out, HD5.out⟩
  case round =>
    clear hcell e2 f0
    obtain ⟨t, ht, rfl, hbw, hbx, hbd⟩ := hrel
    have HBW := Lib.hid hbw; have HBX := Lib.hid hbx; have HBD := Lib.hid hbd
    have f0 := hbd.cell 0
    simp only [List.getElem?_cons_zero] at f0
    clear hbw hbd HB6 HX6 HW6 HD5
    have c0 := hbx.cell 0; have c1 := hbx.cell 1; have c2 := hbx.cell 2; have c3 := hbx.cell 3; have c4 := hbx.cell 4; have c5 := hbx.cell 5; have c6 := hbx.cell 6; have c7 := hbx.cell 7
    simp only [List.getElem?_cons_zero, List.getElem?_cons_succ] at c0 c1 c2 c3 c4 c5 c6 c7
    clear hbx
    obtain ⟨q, hq⟩ : ∃ q, Y - 1 + (t : Int) = q := ⟨_, rfl⟩
    rw [hq]
    by_cases hlt : t < 2
    · have q1 : q ≤ Y := by omega
      have q0 : 0 ≤ q := by omega
      obtain ⟨l1, l2⟩ := HL.out q (by omega)
      have HQ : RowKit.Hid (Y - 1 + ((t + 1 : Nat) : Int) = q + 1) := Lib.hid (by omega)
      have K4 := Lib.hid (K3.out q wr HBW.out)
      obtain ⟨P, hP⟩ : ∃ P, holF rest rules q = P := ⟨_, rfl⟩
      rw [hP] at l1 l2 K4
      clear hP hq
      obtain ⟨xs, E⟩ := P
      simp only at l1 l2 K4
      have L1 := Lib.hid l1
      clear l1
      have fin : q < 1 ∨ (1 ≤ q ∧ E = 0) := by
        by_cases c : 1 ≤ q
        · exact .inr ⟨c, l2 c⟩
        · exact .inl (by omega)
      clear l2
      rcases fin with hq1 | ⟨hq1, rfl⟩

      · skip
        go_wp2_with fail
        refine K4.out.mono ?_
        rintro en w7 ⟨u, rfl, hu, q7⟩
        have HB7 := Lib.hid (bt HBW.out q7)
        have HX7 := Lib.hid (HBX.out.next q7)
        have HD7 := Lib.hid (HBD.out.next q7)
        have hle7 := hu.len_le
        obtain ⟨a7, p7, rfl, s7, t7, z7⟩ := hu
        have Z7 := Lib.hid z7
        clear q7 z7 c0 c1 c2 c3 c4 c5 c6 c7 f0 K3
        go_wp2
        go_loopw [14] (fun i wr => ∃ k : Nat, k ≤ xs.length ∧ i = .int .i64 k ∧ Below w7.heap.size w7 wr) (fun i _ => xs.length - (intOf i).toNat)
        case atStart => exact ⟨0, Nat.zero_le _, rfl, br _⟩
        case round =>
          obtain ⟨k, hk, rfl, hb8⟩ := hrel
          have HB8 := Lib.hid hb8
          by_cases hlk : k < xs.length
          · obtain ⟨g, off, rfl, hbl, hc⟩ := Z7.out (by omega)
            have d0 := (hb8.cell (p := ⟨g, off + k, none⟩) hbl).trans (eI_at hc k hlk)
            have hne : (xs[k] == n) = false := by
              simp only [beq_eq_false_iff_ne, ne_eq]
              intro e; exact L1.out (e ▸ List.getElem_mem hlk)
            have i1 : (k : Int) < (xs.length : Int) := by omega
            have i0 : (0 : Int) ≤ (k : Int) := by omega
            clear hc hb8
            obtain ⟨x, hx⟩ : ∃ x, xs[k] = x := ⟨_, rfl⟩
            rw [hx] at d0 hne
            clear hx
            go_wp2
            go_roundw
            case rel => exact ⟨k + 1, by omega, by first | rfl | go_num, HB8.out⟩
            case measure => simp [intOf]; omega
          · have i1 : ¬ (k : Int) < (xs.length : Int) := by omega
            have HB9 := Lib.hid (bt HB7.out hb8)
            have HX9 := Lib.hid (HX7.out.next hb8)
            have HD9 := Lib.hid (HD7.out.next hb8)
            clear hb8
            go_wp2
            go_roundw
            case rel => exact ⟨t + 1, by omega, by rw [HQ.out], HB9.out, HX9.out, HD9.out⟩
            case measure => simp [intOf]; omega
      · skip
        go_wp2_with fail
        refine K4.out.mono ?_
        rintro en w7 ⟨u, rfl, hu, q7⟩
        have HB7 := Lib.hid (bt HBW.out q7)
        have HX7 := Lib.hid (HBX.out.next q7)
        have HD7 := Lib.hid (HBD.out.next q7)
        have hle7 := hu.len_le
        obtain ⟨a7, p7, rfl, s7, t7, z7⟩ := hu
        have Z7 := Lib.hid z7
        clear q7 z7 c0 c1 c2 c3 c4 c5 c6 c7 f0 K3
        go_wp2
        go_loopw [14] (fun i wr => ∃ k : Nat, k ≤ xs.length ∧ i = .int .i64 k ∧ Below w7.heap.size w7 wr) (fun i _ => xs.length - (intOf i).toNat)
        case atStart => exact ⟨0, Nat.zero_le _, rfl, br _⟩
        case round =>
          obtain ⟨k, hk, rfl, hb8⟩ := hrel
          have HB8 := Lib.hid hb8
          by_cases hlk : k < xs.length
          · obtain ⟨g, off, rfl, hbl, hc⟩ := Z7.out (by omega)
            have d0 := (hb8.cell (p := ⟨g, off + k, none⟩) hbl).trans (eI_at hc k hlk)
            have hne : (xs[k] == n) = false := by
              simp only [beq_eq_false_iff_ne, ne_eq]
              intro e; exact L1.out (e ▸ List.getElem_mem hlk)
            have i1 : (k : Int) < (xs.length : Int) := by omega
            have i0 : (0 : Int) ≤ (k : Int) := by omega
            clear hc hb8
            obtain ⟨x, hx⟩ : ∃ x, xs[k] = x := ⟨_, rfl⟩
            rw [hx] at d0 hne
            clear hx
            go_wp2
            go_roundw
            case rel => exact ⟨k + 1, by omega, by first | rfl | go_num, HB8.out⟩
            case measure => simp [intOf]; omega
          · have i1 : ¬ (k : Int) < (xs.length : Int) := by omega
            have HB9 := Lib.hid (bt HB7.out hb8)
            have HX9 := Lib.hid (HX7.out.next hb8)
            have HD9 := Lib.hid (HD7.out.next hb8)
            clear hb8
            go_wp2
            go_roundw
            case rel => exact ⟨t + 1, by omega, by rw [HQ.out], HB9.out, HX9.out, HD9.out⟩
            case measure => simp [intOf]; omega

    · have htt : t = 2 := by omega
      have q1 : ¬ q ≤ Y := by omega
      clear K3 c0 c1 c2 c3 c4 c5 c6 c7
      go_wp2
      go_ret
      exact ⟨rfl, HBW.out⟩
theorem rests_walk (rest : List Bool) (hr : rest.length = 7) (v : Value) (rules : List Rl) (n : Int) (w : World) (h : RdE elRl w v rules) : Calls Try.prog 8 #[cV rest v, .int .i64 n] w (RetB (.bool true) w) := by
  rcases isP_law rest rules n with h1 | ⟨h1, h0, hn, hw⟩
  · exact rests_no rest hr v rules n w h h1
  · obtain ⟨n1, n2⟩ := (inB_iff n).1 hn
    obtain ⟨l1, l2⟩ := rest_law rest rules n h0 hn hw
    obtain ⟨u1, u2⟩ := wd_bd n
    obtain ⟨y1, y2, _, _⟩ := yearOf_bd n n1 (by omega)
    refine rests_core rest hr v rules n (yearOf n) (dateOf n).2.1 (dateOf n).2.2 (week n).1 (week n).2.1 (wd n) w h u1 u2 l1 y1 y2 h1 (Lib.hid fun w => ?_) (Lib.hid fun w => ?_) (Lib.hid l2)
    · have := week_any n w
      unfold WeekQ at this
      rw [show weekF n = (week n, 0) by unfold weekF; rw [if_pos ⟨n1, by omega⟩]] at this
      exact this
    · have := Dt.of_any n w
      unfold OfQ at this
      rw [show ofF n = (dateOf n, 0) by unfold ofF; rw [if_pos ⟨n1, by omega⟩]] at this
      exact this
end Wk
end Go.Proofs.Ytjicpflgkhdppaa
