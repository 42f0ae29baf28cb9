/- Days of work: the document's own functions. (gen_work2.py) -/
import Derived.Test.YtjicpflgkhdppaaWorkIsR
set_option linter.unusedSimpArgs false
set_option linter.unusedVariables false
namespace Go.Proofs.Ytjicpflgkhdppaa
open Go.RowKit
namespace Wk
open Dt
theorem nextPe {rest : List Bool} {rules : List Rl} (n : Int) (h : calE rest rules = 0) : nextP rest rules n = nextF rest rules n := by unfold nextP; rw [if_neg (fun g => g h)]
theorem isPe {rest : List Bool} {rules : List Rl} (n : Int) (h : calE rest rules ≠ 0) : isP rest rules n = (false, calE rest rules) := by unfold isP; rw [if_pos h]
theorem isPo {rest : List Bool} {rules : List Rl} (n : Int) (h : calE rest rules = 0) (hn : inB n = false) : isP rest rules n = (false, 3) := by unfold isP isF; rw [if_neg (fun g => g h), if_neg (by simp [hn])]
theorem isPi {rest : List Bool} {rules : List Rl} (n : Int) (h : calE rest rules = 0) (hn : inB n = true) : isP rest rules n = (isW rest rules n, 0) := by unfold isP isF; rw [if_neg (fun g => g h), if_pos hn]
set_option maxRecDepth 100000 in
set_option maxHeartbeats 4000000 in
theorem isPR_err (rest : List Bool) (hr : rest.length = 7) (v : Value) (rules : List Rl) (n : Int) (w : World) (h : RdE elRl w v rules) (h0 : calE rest rules ≠ 0) : Calls Try.prog 22 #[cV rest v, .int .i64 n] w (RetB (.tuple #[.bool false, .int .i64 (calE rest rules)]) w) := by
  have HRD := Lib.hid h
  have hle := h.len_le
  obtain ⟨a, cap, rfl, g1, g2, g3⟩ := h
  clear g3
  have CC : RowKit.Hid (∀ w', Below w.heap.size w w' → Calls Try.prog 16 #[cV rest (.slice a rules.length cap)] w' (IntB (calE rest rules) w')) := Lib.hid (fun w' hb => checkR_any rest hr _ rules w' (HRD.out.below hb))
  obtain ⟨b0, b1, b2, b3, b4, b5, b6, hbs⟩ := len7 hr
  have hcv : cV rest (.slice a rules.length cap) = .agg #[.bool b0, .bool b1, .bool b2, .bool b3, .bool b4, .bool b5, .bool b6, .slice a rules.length cap] := by rw [hbs]; rfl
  have HB0 := Lib.hid ((br w).alloc (Nat.le_refl _) (.cells #[.bool b0, .bool b1, .bool b2, .bool b3, .bool b4, .bool b5, .bool b6, .slice a rules.length cap] 25))
  have HX := Lib.hid (Box.new w 25 (calB b0 b1 b2 b3 b4 b5 b6 (.slice a rules.length cap)))
  rw [hcv] at CC ⊢
  clear hbs hcv
  obtain ⟨E, hE⟩ : ∃ E, calE rest rules = E := ⟨_, rfl⟩
  rw [hE] at CC h0 ⊢
  have hz : (E == 0) = false := by simpa using h0
  clear hE h0
  go_enter Try.func22, Try.ntmps22
  go_wp2_with fail
  refine (CC.out _ HB0.out).mono ?_
  rintro en w1 ⟨rfl, b1⟩
  have HB1 := Lib.hid (bt HB0.out b1)
  have hx1 := HX.out.next b1
  have HX1 := Lib.hid hx1
  have c0 := hx1.cell 0; have c1 := hx1.cell 1; have c2 := hx1.cell 2; have c3 := hx1.cell 3; have c4 := hx1.cell 4; have c5 := hx1.cell 5; have c6 := hx1.cell 6; have c7 := hx1.cell 7
  simp only [List.getElem?_cons_zero, List.getElem?_cons_succ] at c0 c1 c2 c3 c4 c5 c6 c7
  clear b1 hx1
  go_wp2
  go_ret2
  exact ⟨rfl, HB1.out⟩
set_option maxRecDepth 100000 in
set_option maxHeartbeats 4000000 in
theorem isPR_lo (rest : List Bool) (hr : rest.length = 7) (v : Value) (rules : List Rl) (n : Int) (w : World) (h : RdE elRl w v rules) (h0 : calE rest rules = 0) (hn : n < 1) : Calls Try.prog 22 #[cV rest v, .int .i64 n] w (RetB (.tuple #[.bool false, .int .i64 3]) w) := by
  have HRD := Lib.hid h
  have hle := h.len_le
  obtain ⟨a, cap, rfl, g1, g2, g3⟩ := h
  clear g3
  have CC : RowKit.Hid (∀ w', Below w.heap.size w w' → Calls Try.prog 16 #[cV rest (.slice a rules.length cap)] w' (IntB (calE rest rules) w')) := Lib.hid (fun w' hb => checkR_any rest hr _ rules w' (HRD.out.below hb))
  obtain ⟨b0, b1, b2, b3, b4, b5, b6, hbs⟩ := len7 hr
  have hcv : cV rest (.slice a rules.length cap) = .agg #[.bool b0, .bool b1, .bool b2, .bool b3, .bool b4, .bool b5, .bool b6, .slice a rules.length cap] := by rw [hbs]; rfl
  have HB0 := Lib.hid ((br w).alloc (Nat.le_refl _) (.cells #[.bool b0, .bool b1, .bool b2, .bool b3, .bool b4, .bool b5, .bool b6, .slice a rules.length cap] 25))
  have HX := Lib.hid (Box.new w 25 (calB b0 b1 b2 b3 b4 b5 b6 (.slice a rules.length cap)))
  rw [hcv] at CC ⊢
  clear hbs hcv
  rw [h0] at CC
  skip
  clear h0
  go_enter Try.func22, Try.ntmps22
  go_wp2_with fail
  refine (CC.out _ HB0.out).mono ?_
  rintro en w1 ⟨rfl, b1⟩
  have HB1 := Lib.hid (bt HB0.out b1)
  have hx1 := HX.out.next b1
  have HX1 := Lib.hid hx1
  have c0 := hx1.cell 0; have c1 := hx1.cell 1; have c2 := hx1.cell 2; have c3 := hx1.cell 3; have c4 := hx1.cell 4; have c5 := hx1.cell 5; have c6 := hx1.cell 6; have c7 := hx1.cell 7
  simp only [List.getElem?_cons_zero, List.getElem?_cons_succ] at c0 c1 c2 c3 c4 c5 c6 c7
  clear b1 hx1
  go_wp2
  go_ret2
  exact ⟨rfl, HB1.out⟩
set_option maxRecDepth 100000 in
set_option maxHeartbeats 4000000 in
theorem isPR_hi (rest : List Bool) (hr : rest.length = 7) (v : Value) (rules : List Rl) (n : Int) (w : World) (h : RdE elRl w v rules) (h0 : calE rest rules = 0) (hn : 3651693 < n) : Calls Try.prog 22 #[cV rest v, .int .i64 n] w (RetB (.tuple #[.bool false, .int .i64 3]) w) := by
  have HRD := Lib.hid h
  have hle := h.len_le
  obtain ⟨a, cap, rfl, g1, g2, g3⟩ := h
  clear g3
  have CC : RowKit.Hid (∀ w', Below w.heap.size w w' → Calls Try.prog 16 #[cV rest (.slice a rules.length cap)] w' (IntB (calE rest rules) w')) := Lib.hid (fun w' hb => checkR_any rest hr _ rules w' (HRD.out.below hb))
  obtain ⟨b0, b1, b2, b3, b4, b5, b6, hbs⟩ := len7 hr
  have hcv : cV rest (.slice a rules.length cap) = .agg #[.bool b0, .bool b1, .bool b2, .bool b3, .bool b4, .bool b5, .bool b6, .slice a rules.length cap] := by rw [hbs]; rfl
  have HB0 := Lib.hid ((br w).alloc (Nat.le_refl _) (.cells #[.bool b0, .bool b1, .bool b2, .bool b3, .bool b4, .bool b5, .bool b6, .slice a rules.length cap] 25))
  have HX := Lib.hid (Box.new w 25 (calB b0 b1 b2 b3 b4 b5 b6 (.slice a rules.length cap)))
  rw [hcv] at CC ⊢
  clear hbs hcv
  rw [h0] at CC
  have hn0 : ¬ n < 1 := by omega
  clear h0
  go_enter Try.func22, Try.ntmps22
  go_wp2_with fail
  refine (CC.out _ HB0.out).mono ?_
  rintro en w1 ⟨rfl, b1⟩
  have HB1 := Lib.hid (bt HB0.out b1)
  have hx1 := HX.out.next b1
  have HX1 := Lib.hid hx1
  have c0 := hx1.cell 0; have c1 := hx1.cell 1; have c2 := hx1.cell 2; have c3 := hx1.cell 3; have c4 := hx1.cell 4; have c5 := hx1.cell 5; have c6 := hx1.cell 6; have c7 := hx1.cell 7
  simp only [List.getElem?_cons_zero, List.getElem?_cons_succ] at c0 c1 c2 c3 c4 c5 c6 c7
  clear b1 hx1
  go_wp2
  go_ret2
  exact ⟨rfl, HB1.out⟩
set_option maxRecDepth 100000 in
set_option maxHeartbeats 4000000 in
theorem isPR_in (rest : List Bool) (hr : rest.length = 7) (v : Value) (rules : List Rl) (n : Int) (w : World) (h : RdE elRl w v rules) (h0 : calE rest rules = 0) (hn1 : 1 ≤ n) (hn2 : n ≤ 3651693) : Calls Try.prog 22 #[cV rest v, .int .i64 n] w (RetB (.tuple #[.bool (isW rest rules n), .int .i64 0]) w) := by
  have hc := cal_of hr h0
  have HRD := Lib.hid h
  have hle := h.len_le
  obtain ⟨a, cap, rfl, g1, g2, g3⟩ := h
  clear g3
  have CC : RowKit.Hid (∀ w', Below w.heap.size w w' → Calls Try.prog 16 #[cV rest (.slice a rules.length cap)] w' (IntB (calE rest rules) w')) := Lib.hid (fun w' hb => checkR_any rest hr _ rules w' (HRD.out.below hb))
  obtain ⟨b0, b1, b2, b3, b4, b5, b6, hbs⟩ := len7 hr
  have hcv : cV rest (.slice a rules.length cap) = .agg #[.bool b0, .bool b1, .bool b2, .bool b3, .bool b4, .bool b5, .bool b6, .slice a rules.length cap] := by rw [hbs]; rfl
  have HB0 := Lib.hid ((br w).alloc (Nat.le_refl _) (.cells #[.bool b0, .bool b1, .bool b2, .bool b3, .bool b4, .bool b5, .bool b6, .slice a rules.length cap] 25))
  have HX := Lib.hid (Box.new w 25 (calB b0 b1 b2 b3 b4 b5 b6 (.slice a rules.length cap)))
  have CW : RowKit.Hid (∀ w', Below w.heap.size w w' → Calls Try.prog 49 #[cV rest (.slice a rules.length cap), .int .i64 n] w' (RetB (.bool (isW rest rules n)) w')) := Lib.hid (fun w' hb => isWR_any rest _ rules hc n hn1 hn2 w' (HRD.out.below hb))
  rw [hcv] at CW
  rw [hcv] at CC ⊢
  clear hbs hcv
  rw [h0] at CC
  obtain ⟨Z, hZ⟩ : ∃ Z, isW rest rules n = Z := ⟨_, rfl⟩
  rw [hZ] at CW ⊢
  have m1 : ¬ n < 1 := by omega
  have m2 : ¬ 3651693 < n := by omega
  clear h0 hc hZ
  go_enter Try.func22, Try.ntmps22
  go_wp2_with fail
  refine (CC.out _ HB0.out).mono ?_
  rintro en w1 ⟨rfl, b1⟩
  have HB1 := Lib.hid (bt HB0.out b1)
  have hx1 := HX.out.next b1
  have HX1 := Lib.hid hx1
  have c0 := hx1.cell 0; have c1 := hx1.cell 1; have c2 := hx1.cell 2; have c3 := hx1.cell 3; have c4 := hx1.cell 4; have c5 := hx1.cell 5; have c6 := hx1.cell 6; have c7 := hx1.cell 7
  simp only [List.getElem?_cons_zero, List.getElem?_cons_succ] at c0 c1 c2 c3 c4 c5 c6 c7
  clear b1 hx1
  go_wp2_with fail
  refine (CW.out _ HB1.out).mono ?_
  rintro en w2 ⟨rfl, b2⟩
  have HB2 := Lib.hid (bt HB1.out b2)
  clear b2
  go_wp2
  go_ret2
  exact ⟨rfl, HB2.out⟩
theorem isPR_any (rest : List Bool) (hr : rest.length = 7) (v : Value) (rules : List Rl) (n : Int) (w : World) (h : RdE elRl w v rules) : Calls Try.prog 22 #[cV rest v, .int .i64 n] w (RetB (.tuple #[.bool (isP rest rules n).1, .int .i64 (isP rest rules n).2]) w) := by
  by_cases h0 : calE rest rules = 0
  · by_cases h1 : n < 1
    · rw [isPo n h0 (by rw [Bool.eq_false_iff, ne_eq, inB_iff]; omega)]; exact isPR_lo rest hr v rules n w h h0 h1
    · by_cases h2 : 3651693 < n
      · rw [isPo n h0 (by rw [Bool.eq_false_iff, ne_eq, inB_iff]; omega)]; exact isPR_hi rest hr v rules n w h h0 h2
      · rw [isPi n h0 (by rw [inB_iff]; omega)]; exact isPR_in rest hr v rules n w h h0 (by omega) (by omega)
  · rw [isPe n h0]; exact isPR_err rest hr v rules n w h h0
set_option maxRecDepth 100000 in
set_option maxHeartbeats 4000000 in
theorem nextPR_any (rest : List Bool) (hr : rest.length = 7) (v : Value) (rules : List Rl) (n : Int) (w : World) (h : RdE elRl w v rules) : Calls Try.prog 23 #[cV rest v, .int .i64 n] w (RetB (.tuple #[.int .i64 (nextP rest rules n).1, .int .i64 (nextP rest rules n).2]) w) := by
  have HRD := Lib.hid h
  have hle := h.len_le
  obtain ⟨a, cap, rfl, g1, g2, g3⟩ := h
  clear g3
  have CC : RowKit.Hid (∀ w', Below w.heap.size w w' → Calls Try.prog 16 #[cV rest (.slice a rules.length cap)] w' (IntB (calE rest rules) w')) := Lib.hid (fun w' hb => checkR_any rest hr _ rules w' (HRD.out.below hb))
  obtain ⟨b0, b1, b2, b3, b4, b5, b6, hbs⟩ := len7 hr
  have hcv : cV rest (.slice a rules.length cap) = .agg #[.bool b0, .bool b1, .bool b2, .bool b3, .bool b4, .bool b5, .bool b6, .slice a rules.length cap] := by rw [hbs]; rfl
  have HB0 := Lib.hid ((br w).alloc (Nat.le_refl _) (.cells #[.bool b0, .bool b1, .bool b2, .bool b3, .bool b4, .bool b5, .bool b6, .slice a rules.length cap] 25))
  have HX := Lib.hid (Box.new w 25 (calB b0 b1 b2 b3 b4 b5 b6 (.slice a rules.length cap)))
  have CW : RowKit.Hid (∀ k w', Below w.heap.size w w' → Calls Try.prog 22 #[cV rest (.slice a rules.length cap), .int .i64 k] w' (RetB (.tuple #[.bool (isP rest rules k).1, .int .i64 (isP rest rules k).2]) w')) := Lib.hid (fun k w' hb => isPR_any rest hr _ rules k w' (HRD.out.below hb))
  rw [hcv] at CW
  rw [hcv] at CC ⊢
  clear hbs hcv
  unfold RetB at CW
  obtain ⟨Z, hZ⟩ : ∃ Z, nextP rest rules n = Z := ⟨_, rfl⟩
  rw [hZ]
  have HZ := Lib.hid hZ
  have HE : RowKit.Hid (∀ k, (isP rest rules k).2 ≠ 0 → nextP rest rules k = (0, (isP rest rules k).2)) := Lib.hid (fun k hk => by
    by_cases h0 : calE rest rules = 0
    · cases hn : inB k with
      | true => rw [isPi k h0 hn] at hk; exact absurd rfl hk
      | false => rw [isPo k h0 hn, nextPe _ h0, nextF_out _ _ _ hn]
    · rw [isPe k h0]; unfold nextP; rw [if_pos h0])
  have HO : RowKit.Hid (∀ k, (isP rest rules k).2 = 0 → 1 ≤ k ∧ k ≤ 3651693 ∧ nextP rest rules k = if (isP rest rules k).1 = true then (k, 0) else nextP rest rules (k + 1)) := Lib.hid (fun k hk => by
    by_cases h0 : calE rest rules = 0
    · cases hn : inB k with
      | true =>
        obtain ⟨k1, k2⟩ := (inB_iff k).1 hn
        refine ⟨k1, k2, ?_⟩
        rw [isPi k h0 hn, nextPe _ h0, nextPe _ h0, nextF_step _ _ _ hn]
      | false => rw [isPo k h0 hn] at hk; exact absurd hk (by decide)
    · rw [isPe k h0] at hk; exact absurd hk h0)
  clear hZ CC hr
  go_enter Try.func23, Try.ntmps23
  go_wp2
  go_loopw [1] (fun i wr => ∃ k : Int, i = .int .i64 k ∧ nextP rest rules k = Z ∧ Below w.heap.size w wr ∧ Box wr w.heap.size 25 (calB b0 b1 b2 b3 b4 b5 b6 (.slice a rules.length cap))) (fun i _ => (3651694 - intOf i).toNat)
  case atStart => exact ⟨n, rfl, HZ.out, HB0.out, HX.out⟩
  case round =>
    obtain ⟨k, rfl, hk, hbw, hbx⟩ := hrel
    have HBW := Lib.hid hbw; have HBX := Lib.hid hbx
    have CK := Lib.hid (CW.out k wr hbw)
    have HEK := Lib.hid (HE.out k); have HOK := Lib.hid (HO.out k)
    have c0 := hbx.cell 0; have c1 := hbx.cell 1; have c2 := hbx.cell 2; have c3 := hbx.cell 3; have c4 := hbx.cell 4; have c5 := hbx.cell 5; have c6 := hbx.cell 6; have c7 := hbx.cell 7
    simp only [List.getElem?_cons_zero, List.getElem?_cons_succ] at c0 c1 c2 c3 c4 c5 c6 c7
    clear hbw hbx HB0 HX HZ CW HE HO
    obtain ⟨P, hP⟩ : ∃ P, isP rest rules k = P := ⟨_, rfl⟩
    rw [hP] at CK HEK HOK
    clear hP
    obtain ⟨p, e⟩ := P
    simp only at CK HEK HOK
    by_cases he : e = 0
    · subst he
      obtain ⟨k1, k2, hst⟩ := HOK.out rfl
      rw [hst] at hk
      clear hst HEK HOK
      cases p with
      | true =>
        rw [if_pos rfl] at hk
        have HK := Lib.hid hk
        clear hk
        go_wp2_with fail
        refine CK.out.mono ?_
        rintro en w2 ⟨rfl, b2⟩
        have HB2 := Lib.hid (bt HBW.out b2)
        clear b2
        go_wp2
        go_ret2
        exact ⟨by rw [← HK.out]; rfl, HB2.out⟩
      | false =>
        rw [if_neg (by simp)] at hk
        have HK := Lib.hid hk
        clear hk
        go_wp2_with fail
        refine CK.out.mono ?_
        rintro en w2 ⟨rfl, b2⟩
        have HB2 := Lib.hid (bt HBW.out b2)
        have HX2 := Lib.hid (HBX.out.next b2)
        clear b2
        go_wp2
        go_roundw
        case rel => exact ⟨k + 1, by first | rfl | go_num, HK.out, HB2.out, HX2.out⟩
        case measure => simp [intOf]; omega
    · rw [HEK.out he] at hk
      have HK := Lib.hid hk
      have he2 : (e == 0) = false := by simpa using he
      clear hk HEK HOK
      go_wp2_with fail
      refine CK.out.mono ?_
      rintro en w2 ⟨rfl, b2⟩
      have HB2 := Lib.hid (bt HBW.out b2)
      clear b2
      go_wp2
      go_ret2
      exact ⟨by rw [← HK.out]; rfl, HB2.out⟩
set_option maxRecDepth 100000 in
set_option maxHeartbeats 4000000 in
theorem addPR_err (rest : List Bool) (hr : rest.length = 7) (v : Value) (rules : List Rl) (n many : Int) (w : World) (h : RdE elRl w v rules) (h0 : calE rest rules ≠ 0) : Calls Try.prog 24 #[cV rest v, .int .i64 n, .int .i64 many] w (RetB (.tuple #[.int .i64 0, .int .i64 (calE rest rules)]) w) := by
  have HRD := Lib.hid h
  have hle := h.len_le
  obtain ⟨a, cap, rfl, g1, g2, g3⟩ := h
  clear g3
  have CC : RowKit.Hid (∀ w', Below w.heap.size w w' → Calls Try.prog 16 #[cV rest (.slice a rules.length cap)] w' (IntB (calE rest rules) w')) := Lib.hid (fun w' hb => checkR_any rest hr _ rules w' (HRD.out.below hb))
  obtain ⟨b0, b1, b2, b3, b4, b5, b6, hbs⟩ := len7 hr
  have hcv : cV rest (.slice a rules.length cap) = .agg #[.bool b0, .bool b1, .bool b2, .bool b3, .bool b4, .bool b5, .bool b6, .slice a rules.length cap] := by rw [hbs]; rfl
  have HB0 := Lib.hid ((br w).alloc (Nat.le_refl _) (.cells #[.bool b0, .bool b1, .bool b2, .bool b3, .bool b4, .bool b5, .bool b6, .slice a rules.length cap] 25))
  have HX := Lib.hid (Box.new w 25 (calB b0 b1 b2 b3 b4 b5 b6 (.slice a rules.length cap)))
  rw [hcv] at CC ⊢
  clear hbs hcv
  obtain ⟨E, hE⟩ : ∃ E, calE rest rules = E := ⟨_, rfl⟩
  rw [hE] at CC h0 ⊢
  have hz : (E == 0) = false := by simpa using h0
  clear hE h0
  go_enter Try.func24, Try.ntmps24
  go_wp2_with fail
  refine (CC.out _ HB0.out).mono ?_
  rintro en w1 ⟨rfl, b1⟩
  have HB1 := Lib.hid (bt HB0.out b1)
  have hx1 := HX.out.next b1
  have HX1 := Lib.hid hx1
  have c0 := hx1.cell 0; have c1 := hx1.cell 1; have c2 := hx1.cell 2; have c3 := hx1.cell 3; have c4 := hx1.cell 4; have c5 := hx1.cell 5; have c6 := hx1.cell 6; have c7 := hx1.cell 7
  simp only [List.getElem?_cons_zero, List.getElem?_cons_succ] at c0 c1 c2 c3 c4 c5 c6 c7
  clear b1 hx1
  go_wp2
  go_ret2
  exact ⟨rfl, HB1.out⟩
set_option maxRecDepth 100000 in
set_option maxHeartbeats 4000000 in
theorem addPR_1 (rest : List Bool) (hr : rest.length = 7) (v : Value) (rules : List Rl) (n many : Int) (w : World) (h : RdE elRl w v rules) (h0 : calE rest rules = 0) (hn : n < 1) : Calls Try.prog 24 #[cV rest v, .int .i64 n, .int .i64 many] w (RetB (.tuple #[.int .i64 0, .int .i64 3]) w) := by
  have HRD := Lib.hid h
  have hle := h.len_le
  obtain ⟨a, cap, rfl, g1, g2, g3⟩ := h
  clear g3
  have CC : RowKit.Hid (∀ w', Below w.heap.size w w' → Calls Try.prog 16 #[cV rest (.slice a rules.length cap)] w' (IntB (calE rest rules) w')) := Lib.hid (fun w' hb => checkR_any rest hr _ rules w' (HRD.out.below hb))
  obtain ⟨b0, b1, b2, b3, b4, b5, b6, hbs⟩ := len7 hr
  have hcv : cV rest (.slice a rules.length cap) = .agg #[.bool b0, .bool b1, .bool b2, .bool b3, .bool b4, .bool b5, .bool b6, .slice a rules.length cap] := by rw [hbs]; rfl
  have HB0 := Lib.hid ((br w).alloc (Nat.le_refl _) (.cells #[.bool b0, .bool b1, .bool b2, .bool b3, .bool b4, .bool b5, .bool b6, .slice a rules.length cap] 25))
  have HX := Lib.hid (Box.new w 25 (calB b0 b1 b2 b3 b4 b5 b6 (.slice a rules.length cap)))
  rw [hcv] at CC ⊢
  clear hbs hcv
  rw [h0] at CC
  skip
  clear h0
  go_enter Try.func24, Try.ntmps24
  go_wp2_with fail
  refine (CC.out _ HB0.out).mono ?_
  rintro en w1 ⟨rfl, b1⟩
  have HB1 := Lib.hid (bt HB0.out b1)
  have hx1 := HX.out.next b1
  have HX1 := Lib.hid hx1
  have c0 := hx1.cell 0; have c1 := hx1.cell 1; have c2 := hx1.cell 2; have c3 := hx1.cell 3; have c4 := hx1.cell 4; have c5 := hx1.cell 5; have c6 := hx1.cell 6; have c7 := hx1.cell 7
  simp only [List.getElem?_cons_zero, List.getElem?_cons_succ] at c0 c1 c2 c3 c4 c5 c6 c7
  clear b1 hx1
  go_wp2
  go_ret2
  exact ⟨rfl, HB1.out⟩
set_option maxRecDepth 100000 in
set_option maxHeartbeats 4000000 in
theorem addPR_2 (rest : List Bool) (hr : rest.length = 7) (v : Value) (rules : List Rl) (n many : Int) (w : World) (h : RdE elRl w v rules) (h0 : calE rest rules = 0) (hn1 : ¬ n < 1) (hn : 3651693 < n) : Calls Try.prog 24 #[cV rest v, .int .i64 n, .int .i64 many] w (RetB (.tuple #[.int .i64 0, .int .i64 3]) w) := by
  have HRD := Lib.hid h
  have hle := h.len_le
  obtain ⟨a, cap, rfl, g1, g2, g3⟩ := h
  clear g3
  have CC : RowKit.Hid (∀ w', Below w.heap.size w w' → Calls Try.prog 16 #[cV rest (.slice a rules.length cap)] w' (IntB (calE rest rules) w')) := Lib.hid (fun w' hb => checkR_any rest hr _ rules w' (HRD.out.below hb))
  obtain ⟨b0, b1, b2, b3, b4, b5, b6, hbs⟩ := len7 hr
  have hcv : cV rest (.slice a rules.length cap) = .agg #[.bool b0, .bool b1, .bool b2, .bool b3, .bool b4, .bool b5, .bool b6, .slice a rules.length cap] := by rw [hbs]; rfl
  have HB0 := Lib.hid ((br w).alloc (Nat.le_refl _) (.cells #[.bool b0, .bool b1, .bool b2, .bool b3, .bool b4, .bool b5, .bool b6, .slice a rules.length cap] 25))
  have HX := Lib.hid (Box.new w 25 (calB b0 b1 b2 b3 b4 b5 b6 (.slice a rules.length cap)))
  rw [hcv] at CC ⊢
  clear hbs hcv
  rw [h0] at CC
  skip
  clear h0
  go_enter Try.func24, Try.ntmps24
  go_wp2_with fail
  refine (CC.out _ HB0.out).mono ?_
  rintro en w1 ⟨rfl, b1⟩
  have HB1 := Lib.hid (bt HB0.out b1)
  have hx1 := HX.out.next b1
  have HX1 := Lib.hid hx1
  have c0 := hx1.cell 0; have c1 := hx1.cell 1; have c2 := hx1.cell 2; have c3 := hx1.cell 3; have c4 := hx1.cell 4; have c5 := hx1.cell 5; have c6 := hx1.cell 6; have c7 := hx1.cell 7
  simp only [List.getElem?_cons_zero, List.getElem?_cons_succ] at c0 c1 c2 c3 c4 c5 c6 c7
  clear b1 hx1
  go_wp2
  go_ret2
  exact ⟨rfl, HB1.out⟩
set_option maxRecDepth 100000 in
set_option maxHeartbeats 4000000 in
theorem addPR_3 (rest : List Bool) (hr : rest.length = 7) (v : Value) (rules : List Rl) (n many : Int) (w : World) (h : RdE elRl w v rules) (h0 : calE rest rules = 0) (hn1 : ¬ n < 1) (hn2 : ¬ 3651693 < n) (hn : many < 0) : Calls Try.prog 24 #[cV rest v, .int .i64 n, .int .i64 many] w (RetB (.tuple #[.int .i64 0, .int .i64 3]) w) := by
  have HRD := Lib.hid h
  have hle := h.len_le
  obtain ⟨a, cap, rfl, g1, g2, g3⟩ := h
  clear g3
  have CC : RowKit.Hid (∀ w', Below w.heap.size w w' → Calls Try.prog 16 #[cV rest (.slice a rules.length cap)] w' (IntB (calE rest rules) w')) := Lib.hid (fun w' hb => checkR_any rest hr _ rules w' (HRD.out.below hb))
  obtain ⟨b0, b1, b2, b3, b4, b5, b6, hbs⟩ := len7 hr
  have hcv : cV rest (.slice a rules.length cap) = .agg #[.bool b0, .bool b1, .bool b2, .bool b3, .bool b4, .bool b5, .bool b6, .slice a rules.length cap] := by rw [hbs]; rfl
  have HB0 := Lib.hid ((br w).alloc (Nat.le_refl _) (.cells #[.bool b0, .bool b1, .bool b2, .bool b3, .bool b4, .bool b5, .bool b6, .slice a rules.length cap] 25))
  have HX := Lib.hid (Box.new w 25 (calB b0 b1 b2 b3 b4 b5 b6 (.slice a rules.length cap)))
  rw [hcv] at CC ⊢
  clear hbs hcv
  rw [h0] at CC
  skip
  clear h0
  go_enter Try.func24, Try.ntmps24
  go_wp2_with fail
  refine (CC.out _ HB0.out).mono ?_
  rintro en w1 ⟨rfl, b1⟩
  have HB1 := Lib.hid (bt HB0.out b1)
  have hx1 := HX.out.next b1
  have HX1 := Lib.hid hx1
  have c0 := hx1.cell 0; have c1 := hx1.cell 1; have c2 := hx1.cell 2; have c3 := hx1.cell 3; have c4 := hx1.cell 4; have c5 := hx1.cell 5; have c6 := hx1.cell 6; have c7 := hx1.cell 7
  simp only [List.getElem?_cons_zero, List.getElem?_cons_succ] at c0 c1 c2 c3 c4 c5 c6 c7
  clear b1 hx1
  go_wp2
  go_ret2
  exact ⟨rfl, HB1.out⟩
set_option maxRecDepth 100000 in
set_option maxHeartbeats 4000000 in
theorem addPR_4 (rest : List Bool) (hr : rest.length = 7) (v : Value) (rules : List Rl) (n many : Int) (w : World) (h : RdE elRl w v rules) (h0 : calE rest rules = 0) (hn1 : ¬ n < 1) (hn2 : ¬ 3651693 < n) (hn3 : ¬ many < 0) (hn : 400 < many) : Calls Try.prog 24 #[cV rest v, .int .i64 n, .int .i64 many] w (RetB (.tuple #[.int .i64 0, .int .i64 3]) w) := by
  have HRD := Lib.hid h
  have hle := h.len_le
  obtain ⟨a, cap, rfl, g1, g2, g3⟩ := h
  clear g3
  have CC : RowKit.Hid (∀ w', Below w.heap.size w w' → Calls Try.prog 16 #[cV rest (.slice a rules.length cap)] w' (IntB (calE rest rules) w')) := Lib.hid (fun w' hb => checkR_any rest hr _ rules w' (HRD.out.below hb))
  obtain ⟨b0, b1, b2, b3, b4, b5, b6, hbs⟩ := len7 hr
  have hcv : cV rest (.slice a rules.length cap) = .agg #[.bool b0, .bool b1, .bool b2, .bool b3, .bool b4, .bool b5, .bool b6, .slice a rules.length cap] := by rw [hbs]; rfl
  have HB0 := Lib.hid ((br w).alloc (Nat.le_refl _) (.cells #[.bool b0, .bool b1, .bool b2, .bool b3, .bool b4, .bool b5, .bool b6, .slice a rules.length cap] 25))
  have HX := Lib.hid (Box.new w 25 (calB b0 b1 b2 b3 b4 b5 b6 (.slice a rules.length cap)))
  rw [hcv] at CC ⊢
  clear hbs hcv
  rw [h0] at CC
  skip
  clear h0
  go_enter Try.func24, Try.ntmps24
  go_wp2_with fail
  refine (CC.out _ HB0.out).mono ?_
  rintro en w1 ⟨rfl, b1⟩
  have HB1 := Lib.hid (bt HB0.out b1)
  have hx1 := HX.out.next b1
  have HX1 := Lib.hid hx1
  have c0 := hx1.cell 0; have c1 := hx1.cell 1; have c2 := hx1.cell 2; have c3 := hx1.cell 3; have c4 := hx1.cell 4; have c5 := hx1.cell 5; have c6 := hx1.cell 6; have c7 := hx1.cell 7
  simp only [List.getElem?_cons_zero, List.getElem?_cons_succ] at c0 c1 c2 c3 c4 c5 c6 c7
  clear b1 hx1
  go_wp2
  go_ret2
  exact ⟨rfl, HB1.out⟩
set_option maxRecDepth 100000 in
set_option maxHeartbeats 4000000 in
theorem addPR_in (rest : List Bool) (hr : rest.length = 7) (v : Value) (rules : List Rl) (n many : Int) (w : World) (h : RdE elRl w v rules) (h0 : calE rest rules = 0) (hn1 : 1 ≤ n) (hn2 : n ≤ 3651693) (hm1 : 0 ≤ many) (hm2 : many ≤ 400) : Calls Try.prog 24 #[cV rest v, .int .i64 n, .int .i64 many] w (RetB (.tuple #[.int .i64 (adds rest rules many.toNat n).1, .int .i64 (adds rest rules many.toNat n).2]) w) := by
  have HRD := Lib.hid h
  have hle := h.len_le
  obtain ⟨a, cap, rfl, g1, g2, g3⟩ := h
  clear g3
  have CC : RowKit.Hid (∀ w', Below w.heap.size w w' → Calls Try.prog 16 #[cV rest (.slice a rules.length cap)] w' (IntB (calE rest rules) w')) := Lib.hid (fun w' hb => checkR_any rest hr _ rules w' (HRD.out.below hb))
  obtain ⟨b0, b1, b2, b3, b4, b5, b6, hbs⟩ := len7 hr
  have hcv : cV rest (.slice a rules.length cap) = .agg #[.bool b0, .bool b1, .bool b2, .bool b3, .bool b4, .bool b5, .bool b6, .slice a rules.length cap] := by rw [hbs]; rfl
  have HB0 := Lib.hid ((br w).alloc (Nat.le_refl _) (.cells #[.bool b0, .bool b1, .bool b2, .bool b3, .bool b4, .bool b5, .bool b6, .slice a rules.length cap] 25))
  have HX := Lib.hid (Box.new w 25 (calB b0 b1 b2 b3 b4 b5 b6 (.slice a rules.length cap)))
  have CW : RowKit.Hid (∀ k w', Below w.heap.size w w' → Calls Try.prog 22 #[cV rest (.slice a rules.length cap), .int .i64 k] w' (RetB (.tuple #[.bool (isP rest rules k).1, .int .i64 (isP rest rules k).2]) w')) := Lib.hid (fun k w' hb => isPR_any rest hr _ rules k w' (HRD.out.below hb))
  rw [hcv] at CW
  rw [hcv] at CC ⊢
  clear hbs hcv
  unfold RetB at CW
  have HS0 : RowKit.Hid (∀ (k : Nat) q, inB (q + 1) = false → isP rest rules (q + 1) = (false, 3) ∧ adds rest rules (k + 1) q = (0, 3)) := Lib.hid (fun k q hq => ⟨isPo _ h0 hq, by
    show (if (nextF rest rules (q + 1)).2 ≠ 0 then (0, (nextF rest rules (q + 1)).2) else adds rest rules k (nextF rest rules (q + 1)).1) = _
    rw [nextF_out _ _ _ hq]; rfl⟩)
  have HS1 : RowKit.Hid (∀ (k : Nat) q, inB (q + 1) = true → isP rest rules (q + 1) = (isW rest rules (q + 1), 0) ∧ adds rest rules (k + 1) q = if isW rest rules (q + 1) = true then adds rest rules k (q + 1) else adds rest rules (k + 1) (q + 1)) := Lib.hid (fun k q hq => ⟨isPi _ h0 hq, by
    show (if (nextF rest rules (q + 1)).2 ≠ 0 then (0, (nextF rest rules (q + 1)).2) else adds rest rules k (nextF rest rules (q + 1)).1) = _
    rw [nextF_step _ _ _ hq]
    by_cases c : isW rest rules (q + 1) = true
    · rw [if_pos c, if_pos c]; rfl
    · rw [if_neg c, if_neg c]; rfl⟩)
  have HZ0 : RowKit.Hid (∀ n, adds rest rules 0 n = (n, 0)) := Lib.hid (fun _ => rfl)
  rw [h0] at CC
  obtain ⟨t, rfl⟩ : ∃ t : Nat, many = t := ⟨many.toNat, by omega⟩
  rw [Int.toNat_natCast]
  obtain ⟨Z, hZ⟩ : ∃ Z, adds rest rules t n = Z := ⟨_, rfl⟩
  rw [hZ]
  have HZ := Lib.hid hZ
  have m1 : ¬ n < 1 := by omega
  have m2 : ¬ 3651693 < n := by omega
  have m3 : ¬ 400 < (t : Int) := by omega
  clear hZ h0 hm1 hr
  go_enter Try.func24, Try.ntmps24
  go_wp2_with fail
  refine (CC.out _ HB0.out).mono ?_
  rintro en w1 ⟨rfl, b1⟩
  have HB1 := Lib.hid (bt HB0.out b1)
  have hx1 := HX.out.next b1
  have HX1 := Lib.hid hx1
  have c0 := hx1.cell 0; have c1 := hx1.cell 1; have c2 := hx1.cell 2; have c3 := hx1.cell 3; have c4 := hx1.cell 4; have c5 := hx1.cell 5; have c6 := hx1.cell 6; have c7 := hx1.cell 7
  simp only [List.getElem?_cons_zero, List.getElem?_cons_succ] at c0 c1 c2 c3 c4 c5 c6 c7
  clear b1 hx1
  clear c0 c1 c2 c3 c4 c5 c6 c7 HX HB0 CC
  go_wp2
  go_loopw [1, 2] (fun x i wr => ∃ (k : Nat) (q : Int), i = .int .i64 k ∧ x = .int .i64 q ∧ k ≤ 400 ∧ 1 ≤ q ∧ q ≤ 3651693 ∧ adds rest rules k q = Z ∧ Below w.heap.size w wr ∧ Box wr w.heap.size 25 (calB b0 b1 b2 b3 b4 b5 b6 (.slice a rules.length cap))) (fun x _ _ => (3651694 - intOf x).toNat)
  case atStart => exact ⟨t, n, rfl, rfl, by omega, hn1, hn2, HZ.out, HB1.out, HX1.out⟩
  case round =>
    obtain ⟨k, q, rfl, rfl, hk4, q1, q2, hk, hbw, hbx⟩ := hrel
    have HBW := Lib.hid hbw; have HBX := Lib.hid hbx
    have CK := Lib.hid (CW.out (q + 1) wr hbw)
    have c0 := hbx.cell 0; have c1 := hbx.cell 1; have c2 := hbx.cell 2; have c3 := hbx.cell 3; have c4 := hbx.cell 4; have c5 := hbx.cell 5; have c6 := hbx.cell 6; have c7 := hbx.cell 7
    simp only [List.getElem?_cons_zero, List.getElem?_cons_succ] at c0 c1 c2 c3 c4 c5 c6 c7
    clear hbw hbx HB1 HX1 HZ CW m1 m2 m3
    by_cases hlt : 0 < k
    · obtain ⟨j, rfl⟩ : ∃ j, k = j + 1 := ⟨k - 1, by omega⟩
      have i1 : (0 : Int) < ((j + 1 : Nat) : Int) := by omega
      cases hin : inB (q + 1) with
      | false =>
        obtain ⟨s1, s2⟩ := HS0.out j q hin
        rw [s1] at CK
        rw [s2] at hk
        simp only at CK
        have HK := Lib.hid hk
        clear hk s1 s2 hin
        go_wp2_with fail
        refine CK.out.mono ?_
        rintro en w2 ⟨rfl, b2⟩
        have HB2 := Lib.hid (bt HBW.out b2)
        clear b2
        go_wp2
        go_ret2
        exact ⟨by rw [← HK.out]; rfl, HB2.out⟩
      | true =>
        obtain ⟨s1, s2⟩ := HS1.out j q hin
        obtain ⟨_, q3⟩ := (inB_iff _).1 hin
        rw [s1] at CK
        rw [s2] at hk
        simp only at CK
        clear s1 s2 hin
        obtain ⟨p, hp⟩ : ∃ p, isW rest rules (q + 1) = p := ⟨_, rfl⟩
        rw [hp] at CK hk
        clear hp
        cases p with
        | true =>
          rw [if_pos rfl] at hk
          have HK := Lib.hid hk
          clear hk
          go_wp2_with fail
          refine CK.out.mono ?_
          rintro en w2 ⟨rfl, b2⟩
          have HB2 := Lib.hid (bt HBW.out b2)
          have HX2 := Lib.hid (HBX.out.next b2)
          clear b2
          go_wp2
          go_roundw
          case rel => exact ⟨j, q + 1, by first | rfl | go_num | (congr 1; omega), by first | rfl | go_num, by omega, by omega, by omega, HK.out, HB2.out, HX2.out⟩
          case measure => simp [intOf]; omega
        | false =>
          rw [if_neg (by simp)] at hk
          have HK := Lib.hid hk
          clear hk
          go_wp2_with fail
          refine CK.out.mono ?_
          rintro en w2 ⟨rfl, b2⟩
          have HB2 := Lib.hid (bt HBW.out b2)
          have HX2 := Lib.hid (HBX.out.next b2)
          clear b2
          go_wp2
          go_roundw
          case rel => exact ⟨j + 1, q + 1, by first | rfl | go_num, by first | rfl | go_num, by omega, by omega, by omega, HK.out, HB2.out, HX2.out⟩
          case measure => simp [intOf]; omega
    · have hk0 : k = 0 := by omega
      subst hk0
      rw [HZ0.out] at hk
      have HK := Lib.hid hk
      clear hk
      go_wp2
      go_ret2
      exact ⟨by rw [← HK.out]; rfl, HBW.out⟩
theorem addPR_any (rest : List Bool) (hr : rest.length = 7) (v : Value) (rules : List Rl) (n many : Int) (w : World) (h : RdE elRl w v rules) : Calls Try.prog 24 #[cV rest v, .int .i64 n, .int .i64 many] w (RetB (.tuple #[.int .i64 (addP rest rules n many).1, .int .i64 (addP rest rules n many).2]) w) := by
  by_cases h0 : calE rest rules = 0
  · have e : addP rest rules n many = addF rest rules n many := by unfold addP; rw [if_neg (fun h => h h0)]
    rw [e]
    have hin : inB n = false ↔ (n < 1 ∨ 3651693 < n) := by rw [Bool.eq_false_iff, ne_eq, inB_iff]; omega
    by_cases hy : inB n = false ∨ many < 0 ∨ 400 < many
    · have e : addF rest rules n many = (0, 3) := by unfold addF; rw [if_pos hy]
      rw [e]
      rw [hin] at hy
      by_cases c1 : n < 1
      · exact addPR_1 rest hr v rules n many w h h0 c1
      by_cases c2 : 3651693 < n
      · exact addPR_2 rest hr v rules n many w h h0 c1 c2
      by_cases c3 : many < 0
      · exact addPR_3 rest hr v rules n many w h h0 c1 c2 c3
      exact addPR_4 rest hr v rules n many w h h0 c1 c2 c3 (by omega)
    · have e : addF rest rules n many = adds rest rules many.toNat n := by unfold addF; rw [if_neg hy]
      rw [e]
      rw [hin] at hy
      exact addPR_in rest hr v rules n many w h h0 (by omega) (by omega) (by omega) (by omega)
  · have e : addP rest rules n many = (0, calE rest rules) := by unfold addP; rw [if_pos h0]
    rw [e]; exact addPR_err rest hr v rules n many w h h0
set_option maxRecDepth 100000 in
set_option maxHeartbeats 4000000 in
theorem countPR_err (rest : List Bool) (hr : rest.length = 7) (v : Value) (rules : List Rl) (x y : Int) (w : World) (h : RdE elRl w v rules) (h0 : calE rest rules ≠ 0) : Calls Try.prog 25 #[cV rest v, .int .i64 x, .int .i64 y] w (RetB (.tuple #[.int .i64 0, .int .i64 (calE rest rules)]) w) := by
  have HRD := Lib.hid h
  have hle := h.len_le
  obtain ⟨a, cap, rfl, g1, g2, g3⟩ := h
  clear g3
  have CC : RowKit.Hid (∀ w', Below w.heap.size w w' → Calls Try.prog 16 #[cV rest (.slice a rules.length cap)] w' (IntB (calE rest rules) w')) := Lib.hid (fun w' hb => checkR_any rest hr _ rules w' (HRD.out.below hb))
  obtain ⟨b0, b1, b2, b3, b4, b5, b6, hbs⟩ := len7 hr
  have hcv : cV rest (.slice a rules.length cap) = .agg #[.bool b0, .bool b1, .bool b2, .bool b3, .bool b4, .bool b5, .bool b6, .slice a rules.length cap] := by rw [hbs]; rfl
  have HB0 := Lib.hid ((br w).alloc (Nat.le_refl _) (.cells #[.bool b0, .bool b1, .bool b2, .bool b3, .bool b4, .bool b5, .bool b6, .slice a rules.length cap] 25))
  have HX := Lib.hid (Box.new w 25 (calB b0 b1 b2 b3 b4 b5 b6 (.slice a rules.length cap)))
  rw [hcv] at CC ⊢
  clear hbs hcv
  obtain ⟨E, hE⟩ : ∃ E, calE rest rules = E := ⟨_, rfl⟩
  rw [hE] at CC h0 ⊢
  have hz : (E == 0) = false := by simpa using h0
  clear hE h0
  go_enter Try.func25, Try.ntmps25
  go_wp2_with fail
  refine (CC.out _ HB0.out).mono ?_
  rintro en w1 ⟨rfl, b1⟩
  have HB1 := Lib.hid (bt HB0.out b1)
  have hx1 := HX.out.next b1
  have HX1 := Lib.hid hx1
  have c0 := hx1.cell 0; have c1 := hx1.cell 1; have c2 := hx1.cell 2; have c3 := hx1.cell 3; have c4 := hx1.cell 4; have c5 := hx1.cell 5; have c6 := hx1.cell 6; have c7 := hx1.cell 7
  simp only [List.getElem?_cons_zero, List.getElem?_cons_succ] at c0 c1 c2 c3 c4 c5 c6 c7
  clear b1 hx1
  go_wp2
  go_ret2
  exact ⟨rfl, HB1.out⟩
set_option maxRecDepth 100000 in
set_option maxHeartbeats 4000000 in
theorem countPR_1 (rest : List Bool) (hr : rest.length = 7) (v : Value) (rules : List Rl) (x y : Int) (w : World) (h : RdE elRl w v rules) (h0 : calE rest rules = 0) (h1 : x < 1) : Calls Try.prog 25 #[cV rest v, .int .i64 x, .int .i64 y] w (RetB (.tuple #[.int .i64 0, .int .i64 3]) w) := by
  have HRD := Lib.hid h
  have hle := h.len_le
  obtain ⟨a, cap, rfl, g1, g2, g3⟩ := h
  clear g3
  have CC : RowKit.Hid (∀ w', Below w.heap.size w w' → Calls Try.prog 16 #[cV rest (.slice a rules.length cap)] w' (IntB (calE rest rules) w')) := Lib.hid (fun w' hb => checkR_any rest hr _ rules w' (HRD.out.below hb))
  obtain ⟨b0, b1, b2, b3, b4, b5, b6, hbs⟩ := len7 hr
  have hcv : cV rest (.slice a rules.length cap) = .agg #[.bool b0, .bool b1, .bool b2, .bool b3, .bool b4, .bool b5, .bool b6, .slice a rules.length cap] := by rw [hbs]; rfl
  have HB0 := Lib.hid ((br w).alloc (Nat.le_refl _) (.cells #[.bool b0, .bool b1, .bool b2, .bool b3, .bool b4, .bool b5, .bool b6, .slice a rules.length cap] 25))
  have HX := Lib.hid (Box.new w 25 (calB b0 b1 b2 b3 b4 b5 b6 (.slice a rules.length cap)))
  rw [hcv] at CC ⊢
  clear hbs hcv
  rw [h0] at CC
  clear h0
  go_enter Try.func25, Try.ntmps25
  go_wp2_with fail
  refine (CC.out _ HB0.out).mono ?_
  rintro en w1 ⟨rfl, b1⟩
  have HB1 := Lib.hid (bt HB0.out b1)
  have hx1 := HX.out.next b1
  have HX1 := Lib.hid hx1
  have c0 := hx1.cell 0; have c1 := hx1.cell 1; have c2 := hx1.cell 2; have c3 := hx1.cell 3; have c4 := hx1.cell 4; have c5 := hx1.cell 5; have c6 := hx1.cell 6; have c7 := hx1.cell 7
  simp only [List.getElem?_cons_zero, List.getElem?_cons_succ] at c0 c1 c2 c3 c4 c5 c6 c7
  clear b1 hx1
  go_wp2
  go_ret2
  exact ⟨rfl, HB1.out⟩
set_option maxRecDepth 100000 in
set_option maxHeartbeats 4000000 in
theorem countPR_2 (rest : List Bool) (hr : rest.length = 7) (v : Value) (rules : List Rl) (x y : Int) (w : World) (h : RdE elRl w v rules) (h0 : calE rest rules = 0) (h1 : ¬ x < 1) (h2 : y < 1) : Calls Try.prog 25 #[cV rest v, .int .i64 x, .int .i64 y] w (RetB (.tuple #[.int .i64 0, .int .i64 3]) w) := by
  have HRD := Lib.hid h
  have hle := h.len_le
  obtain ⟨a, cap, rfl, g1, g2, g3⟩ := h
  clear g3
  have CC : RowKit.Hid (∀ w', Below w.heap.size w w' → Calls Try.prog 16 #[cV rest (.slice a rules.length cap)] w' (IntB (calE rest rules) w')) := Lib.hid (fun w' hb => checkR_any rest hr _ rules w' (HRD.out.below hb))
  obtain ⟨b0, b1, b2, b3, b4, b5, b6, hbs⟩ := len7 hr
  have hcv : cV rest (.slice a rules.length cap) = .agg #[.bool b0, .bool b1, .bool b2, .bool b3, .bool b4, .bool b5, .bool b6, .slice a rules.length cap] := by rw [hbs]; rfl
  have HB0 := Lib.hid ((br w).alloc (Nat.le_refl _) (.cells #[.bool b0, .bool b1, .bool b2, .bool b3, .bool b4, .bool b5, .bool b6, .slice a rules.length cap] 25))
  have HX := Lib.hid (Box.new w 25 (calB b0 b1 b2 b3 b4 b5 b6 (.slice a rules.length cap)))
  rw [hcv] at CC ⊢
  clear hbs hcv
  rw [h0] at CC
  clear h0
  go_enter Try.func25, Try.ntmps25
  go_wp2_with fail
  refine (CC.out _ HB0.out).mono ?_
  rintro en w1 ⟨rfl, b1⟩
  have HB1 := Lib.hid (bt HB0.out b1)
  have hx1 := HX.out.next b1
  have HX1 := Lib.hid hx1
  have c0 := hx1.cell 0; have c1 := hx1.cell 1; have c2 := hx1.cell 2; have c3 := hx1.cell 3; have c4 := hx1.cell 4; have c5 := hx1.cell 5; have c6 := hx1.cell 6; have c7 := hx1.cell 7
  simp only [List.getElem?_cons_zero, List.getElem?_cons_succ] at c0 c1 c2 c3 c4 c5 c6 c7
  clear b1 hx1
  go_wp2
  go_ret2
  exact ⟨rfl, HB1.out⟩
set_option maxRecDepth 100000 in
set_option maxHeartbeats 4000000 in
theorem countPR_3 (rest : List Bool) (hr : rest.length = 7) (v : Value) (rules : List Rl) (x y : Int) (w : World) (h : RdE elRl w v rules) (h0 : calE rest rules = 0) (h1 : ¬ x < 1) (h2 : ¬ y < 1) (h3 : 3651693 < x) : Calls Try.prog 25 #[cV rest v, .int .i64 x, .int .i64 y] w (RetB (.tuple #[.int .i64 0, .int .i64 3]) w) := by
  have HRD := Lib.hid h
  have hle := h.len_le
  obtain ⟨a, cap, rfl, g1, g2, g3⟩ := h
  clear g3
  have CC : RowKit.Hid (∀ w', Below w.heap.size w w' → Calls Try.prog 16 #[cV rest (.slice a rules.length cap)] w' (IntB (calE rest rules) w')) := Lib.hid (fun w' hb => checkR_any rest hr _ rules w' (HRD.out.below hb))
  obtain ⟨b0, b1, b2, b3, b4, b5, b6, hbs⟩ := len7 hr
  have hcv : cV rest (.slice a rules.length cap) = .agg #[.bool b0, .bool b1, .bool b2, .bool b3, .bool b4, .bool b5, .bool b6, .slice a rules.length cap] := by rw [hbs]; rfl
  have HB0 := Lib.hid ((br w).alloc (Nat.le_refl _) (.cells #[.bool b0, .bool b1, .bool b2, .bool b3, .bool b4, .bool b5, .bool b6, .slice a rules.length cap] 25))
  have HX := Lib.hid (Box.new w 25 (calB b0 b1 b2 b3 b4 b5 b6 (.slice a rules.length cap)))
  rw [hcv] at CC ⊢
  clear hbs hcv
  rw [h0] at CC
  clear h0
  go_enter Try.func25, Try.ntmps25
  go_wp2_with fail
  refine (CC.out _ HB0.out).mono ?_
  rintro en w1 ⟨rfl, b1⟩
  have HB1 := Lib.hid (bt HB0.out b1)
  have hx1 := HX.out.next b1
  have HX1 := Lib.hid hx1
  have c0 := hx1.cell 0; have c1 := hx1.cell 1; have c2 := hx1.cell 2; have c3 := hx1.cell 3; have c4 := hx1.cell 4; have c5 := hx1.cell 5; have c6 := hx1.cell 6; have c7 := hx1.cell 7
  simp only [List.getElem?_cons_zero, List.getElem?_cons_succ] at c0 c1 c2 c3 c4 c5 c6 c7
  clear b1 hx1
  go_wp2
  go_ret2
  exact ⟨rfl, HB1.out⟩
set_option maxRecDepth 100000 in
set_option maxHeartbeats 4000000 in
theorem countPR_4 (rest : List Bool) (hr : rest.length = 7) (v : Value) (rules : List Rl) (x y : Int) (w : World) (h : RdE elRl w v rules) (h0 : calE rest rules = 0) (h1 : ¬ x < 1) (h2 : ¬ y < 1) (h3 : ¬ 3651693 < x) (h4 : 3651693 < y) : Calls Try.prog 25 #[cV rest v, .int .i64 x, .int .i64 y] w (RetB (.tuple #[.int .i64 0, .int .i64 3]) w) := by
  have HRD := Lib.hid h
  have hle := h.len_le
  obtain ⟨a, cap, rfl, g1, g2, g3⟩ := h
  clear g3
  have CC : RowKit.Hid (∀ w', Below w.heap.size w w' → Calls Try.prog 16 #[cV rest (.slice a rules.length cap)] w' (IntB (calE rest rules) w')) := Lib.hid (fun w' hb => checkR_any rest hr _ rules w' (HRD.out.below hb))
  obtain ⟨b0, b1, b2, b3, b4, b5, b6, hbs⟩ := len7 hr
  have hcv : cV rest (.slice a rules.length cap) = .agg #[.bool b0, .bool b1, .bool b2, .bool b3, .bool b4, .bool b5, .bool b6, .slice a rules.length cap] := by rw [hbs]; rfl
  have HB0 := Lib.hid ((br w).alloc (Nat.le_refl _) (.cells #[.bool b0, .bool b1, .bool b2, .bool b3, .bool b4, .bool b5, .bool b6, .slice a rules.length cap] 25))
  have HX := Lib.hid (Box.new w 25 (calB b0 b1 b2 b3 b4 b5 b6 (.slice a rules.length cap)))
  rw [hcv] at CC ⊢
  clear hbs hcv
  rw [h0] at CC
  clear h0
  go_enter Try.func25, Try.ntmps25
  go_wp2_with fail
  refine (CC.out _ HB0.out).mono ?_
  rintro en w1 ⟨rfl, b1⟩
  have HB1 := Lib.hid (bt HB0.out b1)
  have hx1 := HX.out.next b1
  have HX1 := Lib.hid hx1
  have c0 := hx1.cell 0; have c1 := hx1.cell 1; have c2 := hx1.cell 2; have c3 := hx1.cell 3; have c4 := hx1.cell 4; have c5 := hx1.cell 5; have c6 := hx1.cell 6; have c7 := hx1.cell 7
  simp only [List.getElem?_cons_zero, List.getElem?_cons_succ] at c0 c1 c2 c3 c4 c5 c6 c7
  clear b1 hx1
  go_wp2
  go_ret2
  exact ⟨rfl, HB1.out⟩
set_option maxRecDepth 100000 in
set_option maxHeartbeats 4000000 in
theorem countPR_5 (rest : List Bool) (hr : rest.length = 7) (v : Value) (rules : List Rl) (x y : Int) (w : World) (h : RdE elRl w v rules) (h0 : calE rest rules = 0) (h1 : ¬ x < 1) (h2 : ¬ y < 1) (h3 : ¬ 3651693 < x) (h4 : ¬ 3651693 < y) (h5 : y < x) : Calls Try.prog 25 #[cV rest v, .int .i64 x, .int .i64 y] w (RetB (.tuple #[.int .i64 0, .int .i64 4]) w) := by
  have HRD := Lib.hid h
  have hle := h.len_le
  obtain ⟨a, cap, rfl, g1, g2, g3⟩ := h
  clear g3
  have CC : RowKit.Hid (∀ w', Below w.heap.size w w' → Calls Try.prog 16 #[cV rest (.slice a rules.length cap)] w' (IntB (calE rest rules) w')) := Lib.hid (fun w' hb => checkR_any rest hr _ rules w' (HRD.out.below hb))
  obtain ⟨b0, b1, b2, b3, b4, b5, b6, hbs⟩ := len7 hr
  have hcv : cV rest (.slice a rules.length cap) = .agg #[.bool b0, .bool b1, .bool b2, .bool b3, .bool b4, .bool b5, .bool b6, .slice a rules.length cap] := by rw [hbs]; rfl
  have HB0 := Lib.hid ((br w).alloc (Nat.le_refl _) (.cells #[.bool b0, .bool b1, .bool b2, .bool b3, .bool b4, .bool b5, .bool b6, .slice a rules.length cap] 25))
  have HX := Lib.hid (Box.new w 25 (calB b0 b1 b2 b3 b4 b5 b6 (.slice a rules.length cap)))
  rw [hcv] at CC ⊢
  clear hbs hcv
  rw [h0] at CC
  clear h0
  go_enter Try.func25, Try.ntmps25
  go_wp2_with fail
  refine (CC.out _ HB0.out).mono ?_
  rintro en w1 ⟨rfl, b1⟩
  have HB1 := Lib.hid (bt HB0.out b1)
  have hx1 := HX.out.next b1
  have HX1 := Lib.hid hx1
  have c0 := hx1.cell 0; have c1 := hx1.cell 1; have c2 := hx1.cell 2; have c3 := hx1.cell 3; have c4 := hx1.cell 4; have c5 := hx1.cell 5; have c6 := hx1.cell 6; have c7 := hx1.cell 7
  simp only [List.getElem?_cons_zero, List.getElem?_cons_succ] at c0 c1 c2 c3 c4 c5 c6 c7
  clear b1 hx1
  go_wp2
  go_ret2
  exact ⟨rfl, HB1.out⟩
set_option maxRecDepth 100000 in
set_option maxHeartbeats 4000000 in
theorem countPR_6 (rest : List Bool) (hr : rest.length = 7) (v : Value) (rules : List Rl) (x y : Int) (w : World) (h : RdE elRl w v rules) (h0 : calE rest rules = 0) (h1 : ¬ x < 1) (h2 : ¬ y < 1) (h3 : ¬ 3651693 < x) (h4 : ¬ 3651693 < y) (h5 : ¬ y < x) (h6 : x + 2000 < y) : Calls Try.prog 25 #[cV rest v, .int .i64 x, .int .i64 y] w (RetB (.tuple #[.int .i64 0, .int .i64 2]) w) := by
  have HRD := Lib.hid h
  have hle := h.len_le
  obtain ⟨a, cap, rfl, g1, g2, g3⟩ := h
  clear g3
  have CC : RowKit.Hid (∀ w', Below w.heap.size w w' → Calls Try.prog 16 #[cV rest (.slice a rules.length cap)] w' (IntB (calE rest rules) w')) := Lib.hid (fun w' hb => checkR_any rest hr _ rules w' (HRD.out.below hb))
  obtain ⟨b0, b1, b2, b3, b4, b5, b6, hbs⟩ := len7 hr
  have hcv : cV rest (.slice a rules.length cap) = .agg #[.bool b0, .bool b1, .bool b2, .bool b3, .bool b4, .bool b5, .bool b6, .slice a rules.length cap] := by rw [hbs]; rfl
  have HB0 := Lib.hid ((br w).alloc (Nat.le_refl _) (.cells #[.bool b0, .bool b1, .bool b2, .bool b3, .bool b4, .bool b5, .bool b6, .slice a rules.length cap] 25))
  have HX := Lib.hid (Box.new w 25 (calB b0 b1 b2 b3 b4 b5 b6 (.slice a rules.length cap)))
  rw [hcv] at CC ⊢
  clear hbs hcv
  rw [h0] at CC
  clear h0
  go_enter Try.func25, Try.ntmps25
  go_wp2_with fail
  refine (CC.out _ HB0.out).mono ?_
  rintro en w1 ⟨rfl, b1⟩
  have HB1 := Lib.hid (bt HB0.out b1)
  have hx1 := HX.out.next b1
  have HX1 := Lib.hid hx1
  have c0 := hx1.cell 0; have c1 := hx1.cell 1; have c2 := hx1.cell 2; have c3 := hx1.cell 3; have c4 := hx1.cell 4; have c5 := hx1.cell 5; have c6 := hx1.cell 6; have c7 := hx1.cell 7
  simp only [List.getElem?_cons_zero, List.getElem?_cons_succ] at c0 c1 c2 c3 c4 c5 c6 c7
  clear b1 hx1
  go_wp2
  go_ret2
  exact ⟨rfl, HB1.out⟩
/-- of the last k days ahead of y -/
def cntB (rest : List Bool) (rules : List Rl) (y : Int) : Nat → Int
  | 0 => 0
  | k + 1 => cntB rest rules y k + if isW rest rules (y - (k + 1)) = true then 1 else 0
theorem cntB_bd (rest : List Bool) (rules : List Rl) (y : Int) : ∀ k : Nat, 0 ≤ cntB rest rules y k ∧ cntB rest rules y k ≤ k
  | 0 => by simp [cntB]
  | k + 1 => by
    have := cntB_bd rest rules y k
    unfold cntB
    split <;> omega
theorem cnt_cons (rest : List Bool) (rules : List Rl) : ∀ (k : Nat) (n : Int), cnt rest rules n (k + 1) = (if isW rest rules n = true then 1 else 0) + cnt rest rules (n + 1) k
  | 0, n => by simp [cnt]
  | k + 1, n => by
    have := cnt_cons rest rules k n
    have e1 : cnt rest rules n (k + 1 + 1) = cnt rest rules n (k + 1) + if isW rest rules (n + ((k + 1 : Nat) : Int)) = true then 1 else 0 := rfl
    have e2 : cnt rest rules (n + 1) (k + 1) = cnt rest rules (n + 1) k + if isW rest rules (n + 1 + (k : Int)) = true then 1 else 0 := rfl
    rw [e1, e2, this, show n + ((k + 1 : Nat) : Int) = n + 1 + k by omega]; omega
theorem cntB_cnt (rest : List Bool) (rules : List Rl) (y : Int) : ∀ k : Nat, cntB rest rules y k = cnt rest rules (y - k) k
  | 0 => by simp [cntB, cnt]
  | k + 1 => by
    rw [cnt_cons]
    show cntB rest rules y k + _ = _
    rw [cntB_cnt rest rules y k, show y - ((k + 1 : Nat) : Int) + 1 = y - k by omega, show y - ((k : Int) + 1) = y - ((k + 1 : Nat) : Int) by omega]; omega
set_option maxRecDepth 100000 in
set_option maxHeartbeats 4000000 in
theorem countPR_in (rest : List Bool) (hr : rest.length = 7) (v : Value) (rules : List Rl) (x y : Int) (w : World) (h : RdE elRl w v rules) (h0 : calE rest rules = 0) (h1 : ¬ x < 1) (h2 : ¬ y < 1) (h3 : ¬ 3651693 < x) (h4 : ¬ 3651693 < y) (h5 : ¬ y < x) (h6 : ¬ x + 2000 < y) : Calls Try.prog 25 #[cV rest v, .int .i64 x, .int .i64 y] w (RetB (.tuple #[.int .i64 (cnt rest rules x (y - x).toNat), .int .i64 0]) w) := by
  have hc := cal_of hr h0
  have HRD := Lib.hid h
  have hle := h.len_le
  obtain ⟨a, cap, rfl, g1, g2, g3⟩ := h
  clear g3
  have CC : RowKit.Hid (∀ w', Below w.heap.size w w' → Calls Try.prog 16 #[cV rest (.slice a rules.length cap)] w' (IntB (calE rest rules) w')) := Lib.hid (fun w' hb => checkR_any rest hr _ rules w' (HRD.out.below hb))
  obtain ⟨b0, b1, b2, b3, b4, b5, b6, hbs⟩ := len7 hr
  have hcv : cV rest (.slice a rules.length cap) = .agg #[.bool b0, .bool b1, .bool b2, .bool b3, .bool b4, .bool b5, .bool b6, .slice a rules.length cap] := by rw [hbs]; rfl
  have HB0 := Lib.hid ((br w).alloc (Nat.le_refl _) (.cells #[.bool b0, .bool b1, .bool b2, .bool b3, .bool b4, .bool b5, .bool b6, .slice a rules.length cap] 25))
  have HX := Lib.hid (Box.new w 25 (calB b0 b1 b2 b3 b4 b5 b6 (.slice a rules.length cap)))
  have CW : RowKit.Hid (∀ k w', 1 ≤ k → k ≤ 3651693 → Below w.heap.size w w' → Calls Try.prog 49 #[cV rest (.slice a rules.length cap), .int .i64 k] w' (RetB (.bool (isW rest rules k)) w')) := Lib.hid (fun k w' k1 k2 hb => isWR_any rest _ rules hc k k1 k2 w' (HRD.out.below hb))
  rw [hcv] at CW
  rw [hcv] at CC ⊢
  clear hbs hcv
  unfold RetB at CW
  rw [h0] at CC
  obtain ⟨t, ht⟩ : ∃ t : Nat, y = x + t := ⟨(y - x).toNat, by omega⟩
  have HT : RowKit.Hid (cnt rest rules x (y - x).toNat = cntB rest rules y t) := Lib.hid (by rw [cntB_cnt, show y - (t : Int) = x by omega, show (y - x).toNat = t by omega])
  have HCB := Lib.hid (cntB_bd rest rules y)
  have HCS : RowKit.Hid (∀ k : Nat, cntB rest rules y (k + 1) = cntB rest rules y k + if isW rest rules (y - (k + 1)) = true then 1 else 0) := Lib.hid (fun _ => rfl)
  have ht2 : (t : Int) ≤ 2000 := by omega
  have HTY := Lib.hid ht
  rw [HT.out]
  clear hc h0 ht HT hr
  go_enter Try.func25, Try.ntmps25
  go_wp2_with fail
  refine (CC.out _ HB0.out).mono ?_
  rintro en w1 ⟨rfl, b1⟩
  have HB1 := Lib.hid (bt HB0.out b1)
  have hx1 := HX.out.next b1
  have HX1 := Lib.hid hx1
  have c0 := hx1.cell 0; have c1 := hx1.cell 1; have c2 := hx1.cell 2; have c3 := hx1.cell 3; have c4 := hx1.cell 4; have c5 := hx1.cell 5; have c6 := hx1.cell 6; have c7 := hx1.cell 7
  simp only [List.getElem?_cons_zero, List.getElem?_cons_succ] at c0 c1 c2 c3 c4 c5 c6 c7
  clear b1 hx1
  clear c0 c1 c2 c3 c4 c5 c6 c7 HX HB0 CC
  go_wp2
  go_loopw [9, 10] (fun m i wr => ∃ k : Nat, k ≤ t ∧ i = .int .i64 (y - (k + 1)) ∧ m = .int .i64 (cntB rest rules y k) ∧ Below w.heap.size w wr ∧ Box wr w.heap.size 25 (calB b0 b1 b2 b3 b4 b5 b6 (.slice a rules.length cap))) (fun _ i _ => (intOf i + 1 - x).toNat)
  case atStart => exact ⟨0, Nat.zero_le _, by simp, rfl, HB1.out, HX1.out⟩
  case round =>
    obtain ⟨k, hk, rfl, rfl, hbw, hbx⟩ := hrel
    have HBW := Lib.hid hbw; have HBX := Lib.hid hbx
    have c0 := hbx.cell 0; have c1 := hbx.cell 1; have c2 := hbx.cell 2; have c3 := hbx.cell 3; have c4 := hbx.cell 4; have c5 := hbx.cell 5; have c6 := hbx.cell 6; have c7 := hbx.cell 7
    simp only [List.getElem?_cons_zero, List.getElem?_cons_succ] at c0 c1 c2 c3 c4 c5 c6 c7
    clear hbx HB1 HX1
    have hcb := HCB.out k
    have hcs := HCS.out k
    obtain ⟨q, hq⟩ : ∃ q, y - ((k : Int) + 1) = q := ⟨_, rfl⟩
    rw [hq] at hcs ⊢
    obtain ⟨cc, hcc⟩ : ∃ cc, cntB rest rules y k = cc := ⟨_, rfl⟩
    rw [hcc] at hcs hcb ⊢
    by_cases hlt : k < t
    · have q1 : x ≤ q := by have := HTY.out; omega
      have q2 : q < y := by omega
      have HQ : RowKit.Hid (y - (((k + 1 : Nat) : Int) + 1) = q - 1) := Lib.hid (by omega)
      have CK := Lib.hid (CW.out q wr (by omega) (by omega) hbw)
      clear hcc hq hbw CW
      obtain ⟨b, hb'⟩ : ∃ b, isW rest rules q = b := ⟨_, rfl⟩
      rw [hb'] at CK hcs
      clear hb'
      cases b with
      | true =>
        rw [if_pos rfl] at hcs
        have HC := Lib.hid hcs
        clear hcs
        go_wp2_with fail
        refine CK.out.mono ?_
        rintro en w2 ⟨rfl, b2⟩
        have HB2 := Lib.hid (bt HBW.out b2)
        have HX2 := Lib.hid (HBX.out.next b2)
        clear b2
        go_wp2
        go_roundw
        case rel => exact ⟨k + 1, by omega, by rw [HQ.out], by rw [HC.out], HB2.out, HX2.out⟩
        case measure => simp [intOf]; omega
      | false =>
        rw [if_neg (by simp), Int.add_zero] at hcs
        have HC := Lib.hid hcs
        clear hcs
        go_wp2_with fail
        refine CK.out.mono ?_
        rintro en w2 ⟨rfl, b2⟩
        have HB2 := Lib.hid (bt HBW.out b2)
        have HX2 := Lib.hid (HBX.out.next b2)
        clear b2
        go_wp2
        go_roundw
        case rel => exact ⟨k + 1, by omega, by rw [HQ.out], by rw [HC.out], HB2.out, HX2.out⟩
        case measure => simp [intOf]; omega
    · have hkk : k = t := by omega
      subst hkk
      have q1 : ¬ x ≤ q := by have := HTY.out; omega
      have HCC := Lib.hid hcc
      clear hcc hcs hbw hq CW
      go_wp2
      go_ret2
      exact ⟨by rw [HCC.out]; rfl, HBW.out⟩
theorem countPR_any (rest : List Bool) (hr : rest.length = 7) (v : Value) (rules : List Rl) (x y : Int) (w : World) (h : RdE elRl w v rules) : Calls Try.prog 25 #[cV rest v, .int .i64 x, .int .i64 y] w (RetB (.tuple #[.int .i64 (countP rest rules x y).1, .int .i64 (countP rest rules x y).2]) w) := by
  have hin : ∀ n, inB n = false ↔ (n < 1 ∨ 3651693 < n) := fun n => by rw [Bool.eq_false_iff, ne_eq, inB_iff]; omega
  by_cases h0 : calE rest rules = 0
  · have e : countP rest rules x y = countF rest rules x y := by unfold countP; rw [if_neg (fun h => h h0)]
    rw [e]
    have e3 : (inB x = false ∨ inB y = false) → countF rest rules x y = (0, 3) := fun h => by unfold countF; rw [if_pos h]
    rw [hin, hin] at e3
    by_cases c1 : x < 1
    · rw [e3 (.inl (.inl c1))]; exact countPR_1 rest hr v rules x y w h h0 c1
    by_cases c2 : y < 1
    · rw [e3 (.inr (.inl c2))]; exact countPR_2 rest hr v rules x y w h h0 c1 c2
    by_cases c3 : 3651693 < x
    · rw [e3 (.inl (.inr c3))]; exact countPR_3 rest hr v rules x y w h h0 c1 c2 c3
    by_cases c4 : 3651693 < y
    · rw [e3 (.inr (.inr c4))]; exact countPR_4 rest hr v rules x y w h h0 c1 c2 c3 c4
    have hno : ¬ (inB x = false ∨ inB y = false) := by rw [hin, hin]; omega
    by_cases c5 : y < x
    · have e : countF rest rules x y = (0, 4) := by unfold countF; rw [if_neg hno, if_pos c5]
      rw [e]; exact countPR_5 rest hr v rules x y w h h0 c1 c2 c3 c4 c5
    by_cases c6 : x + 2000 < y
    · have e : countF rest rules x y = (0, 2) := by unfold countF; rw [if_neg hno, if_neg c5, if_pos (by omega)]
      rw [e]; exact countPR_6 rest hr v rules x y w h h0 c1 c2 c3 c4 c5 c6
    have e : countF rest rules x y = (cnt rest rules x (y - x).toNat, 0) := by unfold countF; rw [if_neg hno, if_neg c5, if_neg (by omega)]
    rw [e]; exact countPR_in rest hr v rules x y w h h0 c1 c2 c3 c4 c5 c6
  · have e : countP rest rules x y = (0, calE rest rules) := by unfold countP; rw [if_pos h0]
    rw [e]; exact countPR_err rest hr v rules x y w h h0
set_option maxRecDepth 100000 in
set_option maxHeartbeats 4000000 in
theorem holR_err (rest : List Bool) (hr : rest.length = 7) (v : Value) (rules : List Rl) (y : Int) (w : World) (h : RdE elRl w v rules) (h0 : calE rest rules ≠ 0) : Calls Try.prog 13 #[cV rest v, .int .i64 y] w (RetB (.tuple #[.slice none 0 0, .int .i64 (calE rest rules)]) w) := by
  have HRD := Lib.hid h
  have hle := h.len_le
  obtain ⟨a, cap, rfl, g1, g2, g3⟩ := h
  clear g3
  have CC : RowKit.Hid (∀ w', Below w.heap.size w w' → Calls Try.prog 16 #[cV rest (.slice a rules.length cap)] w' (IntB (calE rest rules) w')) := Lib.hid (fun w' hb => checkR_any rest hr _ rules w' (HRD.out.below hb))
  obtain ⟨b0, b1, b2, b3, b4, b5, b6, hbs⟩ := len7 hr
  have hcv : cV rest (.slice a rules.length cap) = .agg #[.bool b0, .bool b1, .bool b2, .bool b3, .bool b4, .bool b5, .bool b6, .slice a rules.length cap] := by rw [hbs]; rfl
  have HB0 := Lib.hid ((br w).alloc (Nat.le_refl _) (.cells #[.bool b0, .bool b1, .bool b2, .bool b3, .bool b4, .bool b5, .bool b6, .slice a rules.length cap] 25))
  have HX := Lib.hid (Box.new w 25 (calB b0 b1 b2 b3 b4 b5 b6 (.slice a rules.length cap)))
  rw [hcv] at CC ⊢
  clear hbs hcv
  obtain ⟨E, hE⟩ : ∃ E, calE rest rules = E := ⟨_, rfl⟩
  rw [hE] at CC h0 ⊢
  have hz : (E == 0) = false := by simpa using h0
  clear hE h0
  go_enter Try.func13, Try.ntmps13
  go_wp2_with fail
  refine (CC.out _ HB0.out).mono ?_
  rintro en w1 ⟨rfl, b1⟩
  have HB1 := Lib.hid (bt HB0.out b1)
  have hx1 := HX.out.next b1
  have HX1 := Lib.hid hx1
  have c0 := hx1.cell 0; have c1 := hx1.cell 1; have c2 := hx1.cell 2; have c3 := hx1.cell 3; have c4 := hx1.cell 4; have c5 := hx1.cell 5; have c6 := hx1.cell 6; have c7 := hx1.cell 7
  simp only [List.getElem?_cons_zero, List.getElem?_cons_succ] at c0 c1 c2 c3 c4 c5 c6 c7
  clear b1 hx1
  go_wp2
  go_ret2
  exact ⟨rfl, HB1.out⟩
set_option maxRecDepth 100000 in
set_option maxHeartbeats 4000000 in
theorem holR_lo (rest : List Bool) (hr : rest.length = 7) (v : Value) (rules : List Rl) (y : Int) (w : World) (h : RdE elRl w v rules) (h0 : calE rest rules = 0) (hn : y < 1) : Calls Try.prog 13 #[cV rest v, .int .i64 y] w (RetB (.tuple #[.slice none 0 0, .int .i64 3]) w) := by
  have HRD := Lib.hid h
  have hle := h.len_le
  obtain ⟨a, cap, rfl, g1, g2, g3⟩ := h
  clear g3
  have CC : RowKit.Hid (∀ w', Below w.heap.size w w' → Calls Try.prog 16 #[cV rest (.slice a rules.length cap)] w' (IntB (calE rest rules) w')) := Lib.hid (fun w' hb => checkR_any rest hr _ rules w' (HRD.out.below hb))
  obtain ⟨b0, b1, b2, b3, b4, b5, b6, hbs⟩ := len7 hr
  have hcv : cV rest (.slice a rules.length cap) = .agg #[.bool b0, .bool b1, .bool b2, .bool b3, .bool b4, .bool b5, .bool b6, .slice a rules.length cap] := by rw [hbs]; rfl
  have HB0 := Lib.hid ((br w).alloc (Nat.le_refl _) (.cells #[.bool b0, .bool b1, .bool b2, .bool b3, .bool b4, .bool b5, .bool b6, .slice a rules.length cap] 25))
  have HX := Lib.hid (Box.new w 25 (calB b0 b1 b2 b3 b4 b5 b6 (.slice a rules.length cap)))
  rw [hcv] at CC ⊢
  clear hbs hcv
  rw [h0] at CC
  clear h0
  go_enter Try.func13, Try.ntmps13
  go_wp2_with fail
  refine (CC.out _ HB0.out).mono ?_
  rintro en w1 ⟨rfl, b1⟩
  have HB1 := Lib.hid (bt HB0.out b1)
  have hx1 := HX.out.next b1
  have HX1 := Lib.hid hx1
  have c0 := hx1.cell 0; have c1 := hx1.cell 1; have c2 := hx1.cell 2; have c3 := hx1.cell 3; have c4 := hx1.cell 4; have c5 := hx1.cell 5; have c6 := hx1.cell 6; have c7 := hx1.cell 7
  simp only [List.getElem?_cons_zero, List.getElem?_cons_succ] at c0 c1 c2 c3 c4 c5 c6 c7
  clear b1 hx1
  go_wp2
  go_ret2
  exact ⟨rfl, HB1.out⟩
set_option maxRecDepth 100000 in
set_option maxHeartbeats 4000000 in
theorem holR_hi (rest : List Bool) (hr : rest.length = 7) (v : Value) (rules : List Rl) (y : Int) (w : World) (h : RdE elRl w v rules) (h0 : calE rest rules = 0) (hn1 : ¬ y < 1) (hn : 9998 < y) : Calls Try.prog 13 #[cV rest v, .int .i64 y] w (RetB (.tuple #[.slice none 0 0, .int .i64 3]) w) := by
  have HRD := Lib.hid h
  have hle := h.len_le
  obtain ⟨a, cap, rfl, g1, g2, g3⟩ := h
  clear g3
  have CC : RowKit.Hid (∀ w', Below w.heap.size w w' → Calls Try.prog 16 #[cV rest (.slice a rules.length cap)] w' (IntB (calE rest rules) w')) := Lib.hid (fun w' hb => checkR_any rest hr _ rules w' (HRD.out.below hb))
  obtain ⟨b0, b1, b2, b3, b4, b5, b6, hbs⟩ := len7 hr
  have hcv : cV rest (.slice a rules.length cap) = .agg #[.bool b0, .bool b1, .bool b2, .bool b3, .bool b4, .bool b5, .bool b6, .slice a rules.length cap] := by rw [hbs]; rfl
  have HB0 := Lib.hid ((br w).alloc (Nat.le_refl _) (.cells #[.bool b0, .bool b1, .bool b2, .bool b3, .bool b4, .bool b5, .bool b6, .slice a rules.length cap] 25))
  have HX := Lib.hid (Box.new w 25 (calB b0 b1 b2 b3 b4 b5 b6 (.slice a rules.length cap)))
  rw [hcv] at CC ⊢
  clear hbs hcv
  rw [h0] at CC
  clear h0
  go_enter Try.func13, Try.ntmps13
  go_wp2_with fail
  refine (CC.out _ HB0.out).mono ?_
  rintro en w1 ⟨rfl, b1⟩
  have HB1 := Lib.hid (bt HB0.out b1)
  have hx1 := HX.out.next b1
  have HX1 := Lib.hid hx1
  have c0 := hx1.cell 0; have c1 := hx1.cell 1; have c2 := hx1.cell 2; have c3 := hx1.cell 3; have c4 := hx1.cell 4; have c5 := hx1.cell 5; have c6 := hx1.cell 6; have c7 := hx1.cell 7
  simp only [List.getElem?_cons_zero, List.getElem?_cons_succ] at c0 c1 c2 c3 c4 c5 c6 c7
  clear b1 hx1
  go_wp2
  go_ret2
  exact ⟨rfl, HB1.out⟩
/-- the holidays of a year among the k days from lo on -/
def scan (rest : List Bool) (rules : List Rl) (y lo : Int) : Nat → List Int
  | 0 => []
  | k + 1 => scan rest rules y lo k ++ if lo + k ≠ 0 ∧ isHol rest rules y (lo + k) = true then [lo + k] else []
theorem scan_len (rest : List Bool) (rules : List Rl) (y lo : Int) : ∀ k, (scan rest rules y lo k).length ≤ k
  | 0 => by simp [scan]
  | k + 1 => by
    have := scan_len rest rules y lo k
    unfold scan
    rw [List.length_append]
    split <;> simp <;> omega
theorem scan_mem (rest : List Bool) (rules : List Rl) (y lo : Int) (n : Int) : ∀ k, n ∈ scan rest rules y lo k ↔ lo ≤ n ∧ n < lo + k ∧ n ≠ 0 ∧ isHol rest rules y n = true
  | 0 => by simp [scan]; omega
  | k + 1 => by
    unfold scan
    rw [List.mem_append, scan_mem rest rules y lo n k]
    by_cases c : lo + k ≠ 0 ∧ isHol rest rules y (lo + k) = true
    · rw [if_pos c]
      constructor
      · rintro (⟨h1, h2, h3⟩ | h)
        · exact ⟨h1, by omega, h3⟩
        · simp at h; subst h; exact ⟨by omega, by omega, c⟩
      · rintro ⟨h1, h2, h3⟩
        by_cases e : n = lo + k
        · right; simp [e]
        · left; exact ⟨h1, by omega, h3⟩
    · rw [if_neg c]
      constructor
      · rintro (⟨h1, h2, h3⟩ | h)
        · exact ⟨h1, by omega, h3⟩
        · simp at h
      · rintro ⟨h1, h2, h3⟩
        by_cases e : n = lo + k
        · subst e; exact absurd h3 c
        · left; exact ⟨h1, by omega, h3⟩
theorem scan_inc (rest : List Bool) (rules : List Rl) (y lo : Int) : ∀ k, (scan rest rules y lo k).Pairwise (· < ·)
  | 0 => by simp [scan]
  | k + 1 => by
    unfold scan
    rw [List.pairwise_append]
    refine ⟨scan_inc rest rules y lo k, by split <;> simp, fun a ha b hb => ?_⟩
    have h1 := ((scan_mem rest rules y lo a k).1 ha).2.1
    split at hb
    · simp at hb; subst hb; exact h1
    · cases hb
theorem inc_ext : ∀ (l m : List Int), l.Pairwise (· < ·) → m.Pairwise (· < ·) → (∀ x, x ∈ l ↔ x ∈ m) → l = m
  | [], [], _, _, _ => rfl
  | [], b :: m, _, _, h => by have := (h b).2 (by simp); cases this
  | a :: l, [], _, _, h => by have := (h a).1 (by simp); cases this
  | a :: l, b :: m, hl, hm, h => by
    rw [List.pairwise_cons] at hl hm
    have e : a = b := by
      have h1 := (h a).1 (by simp)
      have h2 := (h b).2 (by simp)
      rcases List.mem_cons.1 h1 with h3 | h3
      · exact h3
      · rcases List.mem_cons.1 h2 with h4 | h4
        · exact h4.symm
        · have := hm.1 a h3; have := hl.1 b h4; omega
    subst e
    congr 1
    refine inc_ext l m hl.2 hm.2 (fun x => ?_)
    have := h x
    simp only [List.mem_cons] at this
    constructor
    · intro hx
      have h1 := hl.1 x hx
      rcases this.1 (.inr hx) with h2 | h2
      · omega
      · exact h2
    · intro hx
      have h1 := hm.1 x hx
      rcases this.2 (.inr hx) with h2 | h2
      · omega
      · exact h2
theorem raw_lo (y m d : Int) (hv : Valid y m d) : dby y + 1 ≤ raw y m d ∧ raw y m d ≤ dby y + 365 + lp y := by
  have := cum_le y m d hv.m1 hv.m2 hv.d1 hv.d2
  unfold raw; omega
/-- a rule's day lies near its year -/
theorem ruleD_near (rest : List Bool) (rules : List Rl) (hc : Cal rest rules) (y : Int) (h1 : 1 ≤ y) (h2 : y ≤ 9999) (r : Rl) (hr : r ∈ rules) (n : Int) (h : ruleD rest r y = some n) : dby y - 39 ≤ n ∧ n < dby y + 365 + lp y + 10 ∧ 1 ≤ n := by
  have hE := rulesE_all rules hc.ok r hr
  have hd := dby_mono (a := 1) (b := y) h1
  have hd1 : dby 1 = 0 := by decide
  have hl := lp_01 y
  obtain ⟨k, m, d, x⟩ := r
  unfold ruleE at hE
  unfold ruleD at h
  simp only at hE h
  by_cases c1 : k = 1
  · rw [if_pos c1] at hE h
    by_cases c : d < 1 ∨ len0 2001 m < d
    · rw [if_pos c] at hE; omega
    · obtain ⟨m1, m2, d3, d4⟩ := len0_2001 (m := m) (d := d) (by omega) (by omega)
      have hv : Valid y m d := ⟨h1, h2, m1, m2, by omega, Int.le_trans d4 (len_2001 y m m1 m2)⟩
      have := raw_lo y m d hv
      obtain ⟨k0, f1, f2, _⟩ := free_ok rest hc.len hc.some_ (raw y m d)
      rw [f2] at h
      injection h with h
      omega
  · rw [if_neg c1] at hE h
    by_cases c2 : k = 2
    · rw [if_pos c2] at hE h
      by_cases c : m < 1 ∨ 12 < m ∨ d < 1 ∨ 5 < d ∨ x < 1 ∨ 7 < x
      · rw [if_pos c] at hE; omega
      · have hlv := len_bd y m (by omega) (by omega)
        have hv : Valid y m 1 := ⟨h1, h2, by omega, by omega, by decide, by omega⟩
        have a1 := raw_lo y m 1 hv
        have hl0 : len0 y m = len y m := by unfold len0; rw [if_pos ⟨h1, h2, by omega, by omega⟩]
        rw [hl0] at h
        have hv2 : Valid y m (len y m) := ⟨h1, h2, by omega, by omega, by omega, Int.le_refl _⟩
        have a2 := raw_lo y m (len y m) hv2
        have a3 : raw y m (len y m) = raw y m 1 + len y m - 1 := by unfold raw; omega
        have hr0 : 0 ≤ (x - wd (raw y m 1) + 7) % 7 ∧ (x - wd (raw y m 1) + 7) % 7 ≤ 6 := by omega
        generalize (x - wd (raw y m 1) + 7) % 7 = r0 at *
        generalize raw y m 1 = N at *
        generalize len y m = L at *
        injection h with h
        split at h <;> omega
    · rw [if_neg c2] at hE h
      by_cases c3 : k = 3
      · rw [if_pos c3] at hE
        by_cases c : m ≠ 0 ∨ x ≠ 0
        · rw [if_pos c] at hE; omega
        · rw [if_neg c] at hE
          by_cases c4 : d < -100 ∨ 100 < d
          · rw [if_pos c4] at hE; omega
          · by_cases c5 : 1583 ≤ y ∧ y ≤ 9999
            · rw [if_pos c5] at h
              injection h with h
              obtain ⟨_, e1, e2, _⟩ := easter_ok y c5.1 c5.2
              have hdd := dby_mono (a := 1583) (b := y) c5.1
              have hd2 : 500000 ≤ dby 1583 := by decide
              have r1 : raw y 3 22 = dby y + lp y + 59 + 22 := by unfold raw; simp [cum]; omega
              have r2 : raw y 4 25 = dby y + lp y + 90 + 25 := by unfold raw; simp [cum]; omega
              omega
            · rw [if_neg c5] at h; cases h
      · rw [if_neg c3] at hE; omega
theorem scan_hol (rest : List Bool) (rules : List Rl) (hc : Cal rest rules) (y : Int) (h1 : 1 ≤ y) (h2 : y ≤ 9999) (T : Nat) (hT : (T : Int) = 414 + lp y) : scan rest rules y (dby y - 39) T = hol rest rules y := by
  refine inc_ext _ _ (scan_inc _ _ _ _ _) (hol_inc _ _ _) (fun n => ?_)
  rw [scan_mem, hol_mem]
  unfold isHol
  rw [decide_eq_true h1, Bool.true_and, List.contains_iff_mem]
  constructor
  · exact fun h => h.2.2.2
  · intro h
    obtain ⟨r, hr, hn⟩ := List.mem_filterMap.1 h
    obtain ⟨a, b, c⟩ := ruleD_near rest rules hc y h1 h2 r hr n hn
    exact ⟨a, by omega, by omega, h⟩
set_option maxRecDepth 100000 in
set_option maxHeartbeats 4000000 in
theorem holR_in (rest : List Bool) (hr : rest.length = 7) (v : Value) (rules : List Rl) (y : Int) (w : World) (h : RdE elRl w v rules) (h0 : calE rest rules = 0) (y1 : 1 ≤ y) (y2 : y ≤ 9998) : Calls Try.prog 13 #[cV rest v, .int .i64 y] w (fun e w' => ∃ u, e = .returned (.tuple #[u, .int .i64 0]) ∧ RdE elZ w' u (hol rest rules y) ∧ Below w.heap.size w w') := by
  have hc := cal_of hr h0
  have HRD := Lib.hid h
  have hle := h.len_le
  obtain ⟨a, cap, rfl, g1, g2, g3⟩ := h
  clear g3
  have CC : RowKit.Hid (∀ w', Below w.heap.size w w' → Calls Try.prog 16 #[cV rest (.slice a rules.length cap)] w' (IntB (calE rest rules) w')) := Lib.hid (fun w' hb => checkR_any rest hr _ rules w' (HRD.out.below hb))
  obtain ⟨b0, b1, b2, b3, b4, b5, b6, hbs⟩ := len7 hr
  have hcv : cV rest (.slice a rules.length cap) = .agg #[.bool b0, .bool b1, .bool b2, .bool b3, .bool b4, .bool b5, .bool b6, .slice a rules.length cap] := by rw [hbs]; rfl
  have HB0 := Lib.hid ((br w).alloc (Nat.le_refl _) (.cells #[.bool b0, .bool b1, .bool b2, .bool b3, .bool b4, .bool b5, .bool b6, .slice a rules.length cap] 25))
  have HX := Lib.hid (Box.new w 25 (calB b0 b1 b2 b3 b4 b5 b6 (.slice a rules.length cap)))
  have CH : RowKit.Hid (∀ k w', k ≠ 0 → Below w.heap.size w w' → Calls Try.prog 39 #[cV rest (.slice a rules.length cap), .int .i64 y, .int .i64 k] w' (RetB (.bool (isHol rest rules y k)) w')) := Lib.hid (fun k w' hk hb => isHolR_any rest _ rules hc y k hk w' (HRD.out.below hb) (by omega))
  rw [hcv] at CH
  rw [hcv] at CC ⊢
  clear hbs hcv
  unfold RetB at CH
  rw [h0] at CC
  have hlp := lp_01 y
  have hd := dby_bd y y1 (by omega)
  obtain ⟨T, hT⟩ : ∃ T : Nat, (T : Int) = 414 + lp y := ⟨(414 + lp y).toNat, by omega⟩
  have HR := Lib.hid (scan_hol rest rules hc y y1 (by omega) T hT)
  have C1 : RowKit.Hid (∀ w, Calls Try.prog 38 #[.agg #[.int .i64 y, .int .i64 1, .int .i64 1]] w fun e w' => e = .returned (.int .i64 (dby y + 1)) ∧ Below w.heap.size w w') := Lib.hid (fun w => by
    have := dayOfR_any y 1 1 w y1 (by omega) (by decide) (by decide) (by decide) (by decide)
    unfold RefDayQ at this
    have e : raw y 1 1 = dby y + 1 := by unfold raw; rw [cum_1]; omega
    rwa [e] at this)
  have C2 : RowKit.Hid (∀ w, Calls Try.prog 38 #[.agg #[.int .i64 y, .int .i64 12, .int .i64 31]] w fun e w' => e = .returned (.int .i64 (dby y - 39 + T - 10)) ∧ Below w.heap.size w w') := Lib.hid (fun w => by
    have := dayOfR_any y 12 31 w y1 (by omega) (by decide) (by decide) (by decide) (by decide)
    unfold RefDayQ at this
    have e : raw y 12 31 = dby y - 39 + T - 10 := by unfold raw; simp [cum]; omega
    rwa [e] at this)
  have hT2 : (T : Int) ≤ 415 := by omega
  have HSL := Lib.hid (scan_len rest rules y (dby y - 39))
  have HSS : RowKit.Hid (∀ k : Nat, scan rest rules y (dby y - 39) (k + 1) = scan rest rules y (dby y - 39) k ++ if dby y - 39 + k ≠ 0 ∧ isHol rest rules y (dby y - 39 + k) = true then [dby y - 39 + k] else []) := Lib.hid (fun _ => rfl)
  have HS0 : RowKit.Hid (scan rest rules y (dby y - 39) 0 = []) := Lib.hid rfl
  obtain ⟨lo, hlo⟩ : ∃ lo, dby y - 39 = lo := ⟨_, rfl⟩
  have hlo2 : dby y + 1 = lo + 40 := by omega
  have b1' : -39 ≤ lo := by omega
  have b2' : lo ≤ 7400000 := by omega
  rw [hlo] at HR C2 HSL HSS HS0
  rw [hlo2] at C1
  have m1 : ¬ y < 1 := by omega
  have m2 : ¬ 9998 < y := by omega
  clear hc h0 hT hr hlp hd hlo hlo2
  go_enter Try.func13, Try.ntmps13
  go_wp2_with fail
  refine (CC.out _ HB0.out).mono ?_
  rintro en w1 ⟨rfl, b1⟩
  have HB1 := Lib.hid (bt HB0.out b1)
  have hx1 := HX.out.next b1
  have HX1 := Lib.hid hx1
  have c0 := hx1.cell 0; have c1 := hx1.cell 1; have c2 := hx1.cell 2; have c3 := hx1.cell 3; have c4 := hx1.cell 4; have c5 := hx1.cell 5; have c6 := hx1.cell 6; have c7 := hx1.cell 7
  simp only [List.getElem?_cons_zero, List.getElem?_cons_succ] at c0 c1 c2 c3 c4 c5 c6 c7
  clear b1 hx1
  clear c0 c1 c2 c3 c4 c5 c6 c7 HX HB0 CC
  go_wp2_with fail
  refine (C1.out _).mono ?_
  rintro en w2 ⟨rfl, b2⟩
  have HB2 := Lib.hid (bt HB1.out b2)
  have HX2 := Lib.hid (HX1.out.next b2)
  clear b2
  have e40 : lo + 40 - 40 = lo := by omega
  go_wp2
  go_loopw [7, 8] (fun s i wr => ∃ k : Nat, k ≤ T ∧ i = .int .i64 (lo + k) ∧ ROwn elZ wr (w.heap.size + 1) s (scan rest rules y lo k) ∧ Below w.heap.size w wr ∧ Box wr w.heap.size 25 (calB b0 b1 b2 b3 b4 b5 b6 (.slice a rules.length cap))) (fun _ i _ => (lo + T - intOf i).toNat)
  case atStart => exact ⟨0, Nat.zero_le _, by simp, by rw [HS0.out]; exact ROwn.nil _ _, HB2.out, HX2.out⟩
  case round =>
    obtain ⟨k, hk, rfl, hown, hbw, hbx⟩ := hrel
    have HBW := Lib.hid hbw; have HBX := Lib.hid hbx; have HOWN := Lib.hid hown
    have hsl := HSL.out k
    have hss := HSS.out k
    obtain ⟨xs, hxs⟩ : ∃ xs, scan rest rules y lo k = xs := ⟨_, rfl⟩
    rw [hxs] at hsl hss HOWN
    clear hbw hbx HB1 HX1 HB2 HX2 hown
    obtain ⟨q, hq⟩ : ∃ q, lo + (k : Int) = q := ⟨_, rfl⟩
    rw [hq] at hss ⊢
    by_cases hlt : k < T
    · have HQ : RowKit.Hid (lo + ((k + 1 : Nat) : Int) = q + 1) := Lib.hid (by omega)
      have q1 : -39 ≤ q := by omega
      have q2 : q ≤ 7401000 := by omega
      have i1 : q < lo + (T : Int) - 10 + 10 := by omega
      have i2 : q < lo + (T : Int) := by omega
      clear hxs hq
      go_wp2_with fail
      refine (C2.out _).mono ?_
      rintro en w3 ⟨rfl, b3⟩
      have HB3 := Lib.hid (bt HBW.out b3)
      have hbx := HBX.out.next b3
      have HX3 := Lib.hid hbx
      have HO3 := Lib.hid (HOWN.out.next b3)
      have c0 := hbx.cell 0; have c1 := hbx.cell 1; have c2 := hbx.cell 2; have c3 := hbx.cell 3; have c4 := hbx.cell 4; have c5 := hbx.cell 5; have c6 := hbx.cell 6; have c7 := hbx.cell 7
      simp only [List.getElem?_cons_zero, List.getElem?_cons_succ] at c0 c1 c2 c3 c4 c5 c6 c7
      clear b3 hbx
      by_cases hq0 : q = 0
      · subst hq0
        rw [if_neg (fun h => h.1 rfl), List.append_nil] at hss
        have HS := Lib.hid hss
        clear hss
        go_wp2
        go_roundw
        case rel => exact ⟨k + 1, by omega, by (rw [HQ.out]) <;> rfl, by rw [HS.out]; exact HO3.out, HB3.out, HX3.out⟩
        case measure => simp [intOf]; omega
      · have hq2 : (q == 0) = false := by simpa using hq0
        have CK := Lib.hid (CH.out q w3 hq0 HB3.out)
        obtain ⟨b, hb'⟩ : ∃ b, isHol rest rules y q = b := ⟨_, rfl⟩
        rw [hb'] at CK hss
        clear hb'
        cases b with
        | true =>
          rw [if_pos ⟨hq0, rfl⟩] at hss
          have HS := Lib.hid hss
          clear hss
          go_wp2_with fail
          refine CK.out.mono ?_
          rintro en w4 ⟨rfl, b4⟩
          have HB4 := Lib.hid (bt HB3.out b4)
          have HX4 := Lib.hid (HX3.out.next b4)
          have HO4 := Lib.hid (HO3.out.next b4)
          clear b4
          go_wp2_with (at_builtin; refine appE elZ rfl (.tmp 40) (.tmp 42) rfl (w.heap.size + 1) _ xs rfl (HO4.out.next ((br _).alloc (Nat.le_refl _) _)) _ [q] rfl (rd_lit elZ [q] _ _ _ _ rfl (by simp [maxLen])) (by simp only [List.length_cons, List.length_nil]; unfold maxLen; omega) (by show (xs.length + 1) * 8 ≤ _; omega) (by have := HX4.out.lt; simp; omega) ?_; intro v9 w9 ho9 hb9 hf9; have HO9 := Lib.hid ho9; have HX9 := Lib.hid ((HX4.out.alloc _).of_block (hf9 _ (by have := HX4.out.lt; simp; omega) (fun h => by have := (HO4.out.lt _ h).1; omega))); have HB9 := Lib.hid ((HB4.out.alloc HB4.out.size _).trans (hb9.mono (Nat.le_succ _))); clear ho9 hb9 hf9)
          go_roundw
          case rel => exact ⟨k + 1, by omega, by rw [HQ.out], by rw [HS.out]; exact HO9.out, HB9.out, HX9.out⟩
          case measure => simp [intOf]; omega
        | false =>
          rw [if_neg (fun h => by cases h.2), List.append_nil] at hss
          have HS := Lib.hid hss
          clear hss
          go_wp2_with fail
          refine CK.out.mono ?_
          rintro en w4 ⟨rfl, b4⟩
          have HB4 := Lib.hid (bt HB3.out b4)
          have HX4 := Lib.hid (HX3.out.next b4)
          have HO4 := Lib.hid (HO3.out.next b4)
          clear b4
          go_wp2
          go_roundw
          case rel => exact ⟨k + 1, by omega, by rw [HQ.out], by rw [HS.out]; exact HO4.out, HB4.out, HX4.out⟩
          case measure => simp [intOf]; omega
    · have hkk : k = T := by omega
      subst hkk
      have i1 : ¬ q < lo + (k : Int) - 10 + 10 := by omega
      have i2 : ¬ q < lo + (k : Int) := by omega
      have HXS := Lib.hid hxs
      clear hxs hss hq
      go_wp2_with fail
      refine (C2.out _).mono ?_
      rintro en w3 ⟨rfl, b3⟩
      have HB3 := Lib.hid (bt HBW.out b3)
      have HO3 := Lib.hid (HOWN.out.next b3)
      clear b3
      go_wp2
      go_ret2
      exact ⟨_, rfl, by rw [← HR.out, HXS.out]; exact HO3.out.rd, HB3.out⟩
theorem holR_any (rest : List Bool) (hr : rest.length = 7) (v : Value) (rules : List Rl) (y : Int) (w : World) (h : RdE elRl w v rules) : Calls Try.prog 13 #[cV rest v, .int .i64 y] w (fun e w' => ∃ u, e = .returned (.tuple #[u, .int .i64 (holF rest rules y).2]) ∧ RdE elZ w' u (holF rest rules y).1 ∧ Below w.heap.size w w') := by
  by_cases h0 : calE rest rules = 0
  · have out : holF rest rules y = ([], 3) → Calls Try.prog 13 #[cV rest v, .int .i64 y] w (RetB (.tuple #[.slice none 0 0, .int .i64 3]) w) → Calls Try.prog 13 #[cV rest v, .int .i64 y] w (fun e w' => ∃ u, e = .returned (.tuple #[u, .int .i64 (holF rest rules y).2]) ∧ RdE elZ w' u (holF rest rules y).1 ∧ Below w.heap.size w w') := fun e hc => by
      rw [e]
      refine hc.mono ?_
      rintro en w1 ⟨rfl, b1⟩
      exact ⟨_, rfl, Rd.nil _, b1⟩
    by_cases hy : y < 1
    · exact out (by unfold holF; rw [if_neg (fun h => h h0), if_pos (.inl hy)]) (holR_lo rest hr v rules y w h h0 hy)
    by_cases hy2 : 9998 < y
    · exact out (by unfold holF; rw [if_neg (fun h => h h0), if_pos (.inr hy2)]) (holR_hi rest hr v rules y w h h0 hy hy2)
    · have e : holF rest rules y = (hol rest rules y, 0) := by unfold holF; rw [if_neg (fun h => h h0), if_neg (by omega)]
      rw [e]
      exact holR_in rest hr v rules y w h h0 (by omega) (by omega)
  · have e : holF rest rules y = ([], calE rest rules) := by unfold holF; rw [if_pos h0]
    rw [e]
    refine (holR_err rest hr v rules y w h h0).mono ?_
    rintro en w1 ⟨rfl, b1⟩
    exact ⟨_, rfl, Rd.nil _, b1⟩
end Wk
end Go.Proofs.Ytjicpflgkhdppaa
