/- Days of work: the package's own functions. (gen_work.py) -/
import Derived.Test.YtjicpflgkhdppaaWorkNext
set_option linter.unusedSimpArgs false
set_option linter.unusedVariables false
namespace Go.Proofs.Ytjicpflgkhdppaa
open Go.RowKit
namespace Wk
open Dt
def RetB (r : Value) (w : World) (e : Ending) (w' : World) : Prop := e = .returned r ∧ Below w.heap.size w w'
def holF (rest : List Bool) (rules : List Rl) (y : Int) : List Int × Int := if calE rest rules ≠ 0 then ([], calE rest rules) else if y < 1 ∨ 9998 < y then ([], 3) else (hol rest rules y, 0)
def isP (rest : List Bool) (rules : List Rl) (n : Int) : Bool × Int := if calE rest rules ≠ 0 then (false, calE rest rules) else isF rest rules n
def nextP (rest : List Bool) (rules : List Rl) (n : Int) : Int × Int := if calE rest rules ≠ 0 then (0, calE rest rules) else nextF rest rules n
def adds (rest : List Bool) (rules : List Rl) : Nat → Int → Int × Int
  | 0, n => (n, 0)
  | k + 1, n => if (nextF rest rules (n + 1)).2 ≠ 0 then (0, (nextF rest rules (n + 1)).2) else adds rest rules k (nextF rest rules (n + 1)).1
def addF (rest : List Bool) (rules : List Rl) (n many : Int) : Int × Int := if inB n = false ∨ many < 0 ∨ 400 < many then (0, 3) else adds rest rules many.toNat n
def addP (rest : List Bool) (rules : List Rl) (n many : Int) : Int × Int := if calE rest rules ≠ 0 then (0, calE rest rules) else addF rest rules n many
def cnt (rest : List Bool) (rules : List Rl) (n : Int) : Nat → Int
  | 0 => 0
  | k + 1 => cnt rest rules n k + if isW rest rules (n + k) = true then 1 else 0
theorem cnt_bd (rest : List Bool) (rules : List Rl) (n : Int) : ∀ k : Nat, 0 ≤ cnt rest rules n k ∧ cnt rest rules n k ≤ k
  | 0 => by simp [cnt]
  | k + 1 => by
    have := cnt_bd rest rules n k
    unfold cnt
    split <;> omega
def countF (rest : List Bool) (rules : List Rl) (a b : Int) : Int × Int := if inB a = false ∨ inB b = false then (0, 3) else if b < a then (0, 4) else if 2000 < b - a then (0, 2) else (cnt rest rules a (b - a).toNat, 0)
def countP (rest : List Bool) (rules : List Rl) (a b : Int) : Int × Int := if calE rest rules ≠ 0 then (0, calE rest rules) else countF rest rules a b
set_option maxRecDepth 100000 in
set_option maxHeartbeats 4000000 in
theorem isP_err (rest : List Bool) (hr : rest.length = 7) (v : Value) (rules : List Rl) (n : Int) (w : World) (h : RdE elRl w v rules) (h0 : calE rest rules ≠ 0) : Calls Try.prog 20 #[cV rest v, .int .i64 n] w (RetB (.tuple #[.bool false, .int .i64 (calE rest rules)]) w) := by
  have HRD := Lib.hid h
  obtain ⟨a, cap, rfl, g1, g2, g3⟩ := h
  clear g3
  have CC : RowKit.Hid (∀ w', Below w.heap.size w w' → Calls Try.prog 15 #[cV rest (.slice a rules.length cap)] w' (IntB (calE rest rules) w')) := Lib.hid (fun w' hb => check_any rest hr _ rules w' (HRD.out.below hb))
  have CM : RowKit.Hid (∀ w', Below w.heap.size w w' → Calls Try.prog 36 #[cV rest (.slice a rules.length cap)] w' (MadeQ rest (.slice a rules.length cap) rules w')) := Lib.hid (fun w' hb => made_any rest hr _ rules w' (HRD.out.below hb))
  obtain ⟨b0, b1, b2, b3, b4, b5, b6, hbs⟩ := len7 hr
  have hcv : cV rest (.slice a rules.length cap) = .agg #[.bool b0, .bool b1, .bool b2, .bool b3, .bool b4, .bool b5, .bool b6, .slice a rules.length cap] := by rw [hbs]; rfl
  have HB0 := Lib.hid ((br w).alloc (Nat.le_refl _) (.cells #[.bool b0, .bool b1, .bool b2, .bool b3, .bool b4, .bool b5, .bool b6, .slice a rules.length cap] 25))
  have HX := Lib.hid (Box.new w 25 (calB b0 b1 b2 b3 b4 b5 b6 (.slice a rules.length cap)))
  rw [hcv] at CC CM ⊢
  clear hbs hcv
  obtain ⟨E, hE⟩ : ∃ E, calE rest rules = E := ⟨_, rfl⟩
  rw [hE] at CC h0 ⊢
  have hz : (E == 0) = false := by simpa using h0
  clear hE h0 CM
  go_enter Try.func20, Try.ntmps20
  go_wp2_with fail
  refine (CC.out _ HB0.out).mono ?_
  rintro en w1 ⟨rfl, b1⟩
  have HB1 := Lib.hid (bt HB0.out b1)
  have hx1 := HX.out.next b1
  have c0 := hx1.cell 0; have c1 := hx1.cell 1; have c2 := hx1.cell 2; have c3 := hx1.cell 3; have c4 := hx1.cell 4; have c5 := hx1.cell 5; have c6 := hx1.cell 6; have c7 := hx1.cell 7
  simp only [List.getElem?_cons_zero, List.getElem?_cons_succ] at c0 c1 c2 c3 c4 c5 c6 c7
  clear b1 hx1
  go_wp2
  go_ret2
  exact ⟨rfl, HB1.out⟩
set_option maxRecDepth 100000 in
set_option maxHeartbeats 4000000 in
theorem isP_ok (rest : List Bool) (hr : rest.length = 7) (v : Value) (rules : List Rl) (n : Int) (w : World) (h : RdE elRl w v rules) (h0 : calE rest rules = 0) : Calls Try.prog 20 #[cV rest v, .int .i64 n] w (RetB (.tuple #[.bool (isF rest rules n).1, .int .i64 (isF rest rules n).2]) w) := by
  have hc := cal_of hr h0
  have HRD := Lib.hid h
  obtain ⟨a, cap, rfl, g1, g2, g3⟩ := h
  clear g3
  have CC : RowKit.Hid (∀ w', Below w.heap.size w w' → Calls Try.prog 15 #[cV rest (.slice a rules.length cap)] w' (IntB (calE rest rules) w')) := Lib.hid (fun w' hb => check_any rest hr _ rules w' (HRD.out.below hb))
  have CM : RowKit.Hid (∀ w', Below w.heap.size w w' → Calls Try.prog 36 #[cV rest (.slice a rules.length cap)] w' (MadeQ rest (.slice a rules.length cap) rules w')) := Lib.hid (fun w' hb => made_any rest hr _ rules w' (HRD.out.below hb))
  obtain ⟨b0, b1, b2, b3, b4, b5, b6, hbs⟩ := len7 hr
  have hcv : cV rest (.slice a rules.length cap) = .agg #[.bool b0, .bool b1, .bool b2, .bool b3, .bool b4, .bool b5, .bool b6, .slice a rules.length cap] := by rw [hbs]; rfl
  have HB0 := Lib.hid ((br w).alloc (Nat.le_refl _) (.cells #[.bool b0, .bool b1, .bool b2, .bool b3, .bool b4, .bool b5, .bool b6, .slice a rules.length cap] 25))
  have HX := Lib.hid (Box.new w 25 (calB b0 b1 b2 b3 b4 b5 b6 (.slice a rules.length cap)))
  rw [hcv] at CC CM ⊢
  clear hbs hcv
  rw [h0] at CC
  clear h0
  have C3 : RowKit.Hid (∀ A M w, Alm w A M rest (.slice a rules.length cap) rules → Calls Try.prog 48 #[pA A, .int .i64 n] w (AlmQ A M rest (.slice a rules.length cap) rules (.tuple #[.bool (isF rest rules n).1, .int .i64 (isF rest rules n).2]) w)) := Lib.hid (fun A M w h => asked_any A M rest _ rules hc n w h)
  obtain ⟨Z, hZ⟩ : ∃ Z, isF rest rules n = Z := ⟨_, rfl⟩
  rw [hZ] at C3 ⊢
  clear hZ hc
  go_enter Try.func20, Try.ntmps20
  go_wp2_with fail
  refine (CC.out _ HB0.out).mono ?_
  rintro en w1 ⟨rfl, b1⟩
  have HB1 := Lib.hid (bt HB0.out b1)
  have hx1 := HX.out.next b1
  have c0 := hx1.cell 0; have c1 := hx1.cell 1; have c2 := hx1.cell 2; have c3 := hx1.cell 3; have c4 := hx1.cell 4; have c5 := hx1.cell 5; have c6 := hx1.cell 6; have c7 := hx1.cell 7
  simp only [List.getElem?_cons_zero, List.getElem?_cons_succ] at c0 c1 c2 c3 c4 c5 c6 c7
  clear b1 hx1
  go_wp2_with fail
  refine (CM.out _ HB1.out).mono ?_
  rintro en w2 ⟨A, M, rfl, ha, b2, hM⟩
  have HB2 := Lib.hid (bt HB1.out b2)
  have HA2 := Lib.hid ha
  have HM : RowKit.Hid (w.heap.size ≤ M) := Lib.hid (Nat.le_trans HB1.out.size hM)
  clear b2 hM ha
  go_wp2_with fail
  refine (C3.out A M _ HA2.out).mono ?_
  rintro en w3 ⟨rfl, ha3, hg3⟩
  have HB3 := Lib.hid (bbg HB2.out hg3 (Nat.le_refl _) HM.out)
  clear ha3 hg3
  go_wp2
  go_ret2
  exact ⟨rfl, HB3.out⟩
theorem isP_any (rest : List Bool) (hr : rest.length = 7) (v : Value) (rules : List Rl) (n : Int) (w : World) (h : RdE elRl w v rules) : Calls Try.prog 20 #[cV rest v, .int .i64 n] w (RetB (.tuple #[.bool (isP rest rules n).1, .int .i64 (isP rest rules n).2]) w) := by
  by_cases h0 : calE rest rules = 0
  · have e : isP rest rules n = isF rest rules n := by unfold isP; rw [if_neg (fun h => h h0)]
    rw [e]; exact isP_ok rest hr v rules n w h h0
  · have e : isP rest rules n = (false, calE rest rules) := by unfold isP; rw [if_pos h0]
    rw [e]; exact isP_err rest hr v rules n w h h0
set_option maxRecDepth 100000 in
set_option maxHeartbeats 4000000 in
theorem nextP_err (rest : List Bool) (hr : rest.length = 7) (v : Value) (rules : List Rl) (n : Int) (w : World) (h : RdE elRl w v rules) (h0 : calE rest rules ≠ 0) : Calls Try.prog 21 #[cV rest v, .int .i64 n] w (RetB (.tuple #[.int .i64 0, .int .i64 (calE rest rules)]) w) := by
  have HRD := Lib.hid h
  obtain ⟨a, cap, rfl, g1, g2, g3⟩ := h
  clear g3
  have CC : RowKit.Hid (∀ w', Below w.heap.size w w' → Calls Try.prog 15 #[cV rest (.slice a rules.length cap)] w' (IntB (calE rest rules) w')) := Lib.hid (fun w' hb => check_any rest hr _ rules w' (HRD.out.below hb))
  have CM : RowKit.Hid (∀ w', Below w.heap.size w w' → Calls Try.prog 36 #[cV rest (.slice a rules.length cap)] w' (MadeQ rest (.slice a rules.length cap) rules w')) := Lib.hid (fun w' hb => made_any rest hr _ rules w' (HRD.out.below hb))
  obtain ⟨b0, b1, b2, b3, b4, b5, b6, hbs⟩ := len7 hr
  have hcv : cV rest (.slice a rules.length cap) = .agg #[.bool b0, .bool b1, .bool b2, .bool b3, .bool b4, .bool b5, .bool b6, .slice a rules.length cap] := by rw [hbs]; rfl
  have HB0 := Lib.hid ((br w).alloc (Nat.le_refl _) (.cells #[.bool b0, .bool b1, .bool b2, .bool b3, .bool b4, .bool b5, .bool b6, .slice a rules.length cap] 25))
  have HX := Lib.hid (Box.new w 25 (calB b0 b1 b2 b3 b4 b5 b6 (.slice a rules.length cap)))
  rw [hcv] at CC CM ⊢
  clear hbs hcv
  obtain ⟨E, hE⟩ : ∃ E, calE rest rules = E := ⟨_, rfl⟩
  rw [hE] at CC h0 ⊢
  have hz : (E == 0) = false := by simpa using h0
  clear hE h0 CM
  go_enter Try.func21, Try.ntmps21
  go_wp2_with fail
  refine (CC.out _ HB0.out).mono ?_
  rintro en w1 ⟨rfl, b1⟩
  have HB1 := Lib.hid (bt HB0.out b1)
  have hx1 := HX.out.next b1
  have c0 := hx1.cell 0; have c1 := hx1.cell 1; have c2 := hx1.cell 2; have c3 := hx1.cell 3; have c4 := hx1.cell 4; have c5 := hx1.cell 5; have c6 := hx1.cell 6; have c7 := hx1.cell 7
  simp only [List.getElem?_cons_zero, List.getElem?_cons_succ] at c0 c1 c2 c3 c4 c5 c6 c7
  clear b1 hx1
  go_wp2
  go_ret2
  exact ⟨rfl, HB1.out⟩
set_option maxRecDepth 100000 in
set_option maxHeartbeats 4000000 in
theorem nextP_ok (rest : List Bool) (hr : rest.length = 7) (v : Value) (rules : List Rl) (n : Int) (w : World) (h : RdE elRl w v rules) (h0 : calE rest rules = 0) : Calls Try.prog 21 #[cV rest v, .int .i64 n] w (RetB (.tuple #[.int .i64 (nextF rest rules n).1, .int .i64 (nextF rest rules n).2]) w) := by
  have hc := cal_of hr h0
  have HRD := Lib.hid h
  obtain ⟨a, cap, rfl, g1, g2, g3⟩ := h
  clear g3
  have CC : RowKit.Hid (∀ w', Below w.heap.size w w' → Calls Try.prog 15 #[cV rest (.slice a rules.length cap)] w' (IntB (calE rest rules) w')) := Lib.hid (fun w' hb => check_any rest hr _ rules w' (HRD.out.below hb))
  have CM : RowKit.Hid (∀ w', Below w.heap.size w w' → Calls Try.prog 36 #[cV rest (.slice a rules.length cap)] w' (MadeQ rest (.slice a rules.length cap) rules w')) := Lib.hid (fun w' hb => made_any rest hr _ rules w' (HRD.out.below hb))
  obtain ⟨b0, b1, b2, b3, b4, b5, b6, hbs⟩ := len7 hr
  have hcv : cV rest (.slice a rules.length cap) = .agg #[.bool b0, .bool b1, .bool b2, .bool b3, .bool b4, .bool b5, .bool b6, .slice a rules.length cap] := by rw [hbs]; rfl
  have HB0 := Lib.hid ((br w).alloc (Nat.le_refl _) (.cells #[.bool b0, .bool b1, .bool b2, .bool b3, .bool b4, .bool b5, .bool b6, .slice a rules.length cap] 25))
  have HX := Lib.hid (Box.new w 25 (calB b0 b1 b2 b3 b4 b5 b6 (.slice a rules.length cap)))
  rw [hcv] at CC CM ⊢
  clear hbs hcv
  rw [h0] at CC
  clear h0
  have C3 : RowKit.Hid (∀ A M w, Alm w A M rest (.slice a rules.length cap) rules → Calls Try.prog 46 #[pA A, .int .i64 n] w (AlmQ A M rest (.slice a rules.length cap) rules (.tuple #[.int .i64 (nextF rest rules n).1, .int .i64 (nextF rest rules n).2]) w)) := Lib.hid (fun A M w h => next_any A M rest _ rules hc n w h)
  obtain ⟨Z, hZ⟩ : ∃ Z, nextF rest rules n = Z := ⟨_, rfl⟩
  rw [hZ] at C3 ⊢
  clear hZ hc
  go_enter Try.func21, Try.ntmps21
  go_wp2_with fail
  refine (CC.out _ HB0.out).mono ?_
  rintro en w1 ⟨rfl, b1⟩
  have HB1 := Lib.hid (bt HB0.out b1)
  have hx1 := HX.out.next b1
  have c0 := hx1.cell 0; have c1 := hx1.cell 1; have c2 := hx1.cell 2; have c3 := hx1.cell 3; have c4 := hx1.cell 4; have c5 := hx1.cell 5; have c6 := hx1.cell 6; have c7 := hx1.cell 7
  simp only [List.getElem?_cons_zero, List.getElem?_cons_succ] at c0 c1 c2 c3 c4 c5 c6 c7
  clear b1 hx1
  go_wp2_with fail
  refine (CM.out _ HB1.out).mono ?_
  rintro en w2 ⟨A, M, rfl, ha, b2, hM⟩
  have HB2 := Lib.hid (bt HB1.out b2)
  have HA2 := Lib.hid ha
  have HM : RowKit.Hid (w.heap.size ≤ M) := Lib.hid (Nat.le_trans HB1.out.size hM)
  clear b2 hM ha
  go_wp2_with fail
  refine (C3.out A M _ HA2.out).mono ?_
  rintro en w3 ⟨rfl, ha3, hg3⟩
  have HB3 := Lib.hid (bbg HB2.out hg3 (Nat.le_refl _) HM.out)
  clear ha3 hg3
  go_wp2
  go_ret2
  exact ⟨rfl, HB3.out⟩
theorem nextP_any (rest : List Bool) (hr : rest.length = 7) (v : Value) (rules : List Rl) (n : Int) (w : World) (h : RdE elRl w v rules) : Calls Try.prog 21 #[cV rest v, .int .i64 n] w (RetB (.tuple #[.int .i64 (nextP rest rules n).1, .int .i64 (nextP rest rules n).2]) w) := by
  by_cases h0 : calE rest rules = 0
  · have e : nextP rest rules n = nextF rest rules n := by unfold nextP; rw [if_neg (fun h => h h0)]
    rw [e]; exact nextP_ok rest hr v rules n w h h0
  · have e : nextP rest rules n = (0, calE rest rules) := by unfold nextP; rw [if_pos h0]
    rw [e]; exact nextP_err rest hr v rules n w h h0
set_option maxRecDepth 100000 in
set_option maxHeartbeats 4000000 in
theorem hol_err (rest : List Bool) (hr : rest.length = 7) (v : Value) (rules : List Rl) (y : Int) (w : World) (h : RdE elRl w v rules) (h0 : calE rest rules ≠ 0) : Calls Try.prog 12 #[cV rest v, .int .i64 y] w (RetB (.tuple #[.slice none 0 0, .int .i64 (calE rest rules)]) w) := by
  have HRD := Lib.hid h
  obtain ⟨a, cap, rfl, g1, g2, g3⟩ := h
  clear g3
  have CC : RowKit.Hid (∀ w', Below w.heap.size w w' → Calls Try.prog 15 #[cV rest (.slice a rules.length cap)] w' (IntB (calE rest rules) w')) := Lib.hid (fun w' hb => check_any rest hr _ rules w' (HRD.out.below hb))
  have CM : RowKit.Hid (∀ w', Below w.heap.size w w' → Calls Try.prog 36 #[cV rest (.slice a rules.length cap)] w' (MadeQ rest (.slice a rules.length cap) rules w')) := Lib.hid (fun w' hb => made_any rest hr _ rules w' (HRD.out.below hb))
  obtain ⟨b0, b1, b2, b3, b4, b5, b6, hbs⟩ := len7 hr
  have hcv : cV rest (.slice a rules.length cap) = .agg #[.bool b0, .bool b1, .bool b2, .bool b3, .bool b4, .bool b5, .bool b6, .slice a rules.length cap] := by rw [hbs]; rfl
  have HB0 := Lib.hid ((br w).alloc (Nat.le_refl _) (.cells #[.bool b0, .bool b1, .bool b2, .bool b3, .bool b4, .bool b5, .bool b6, .slice a rules.length cap] 25))
  have HX := Lib.hid (Box.new w 25 (calB b0 b1 b2 b3 b4 b5 b6 (.slice a rules.length cap)))
  rw [hcv] at CC CM ⊢
  clear hbs hcv
  obtain ⟨E, hE⟩ : ∃ E, calE rest rules = E := ⟨_, rfl⟩
  rw [hE] at CC h0 ⊢
  have hz : (E == 0) = false := by simpa using h0
  clear hE h0 CM
  go_enter Try.func12, Try.ntmps12
  go_wp2_with fail
  refine (CC.out _ HB0.out).mono ?_
  rintro en w1 ⟨rfl, b1⟩
  have HB1 := Lib.hid (bt HB0.out b1)
  have hx1 := HX.out.next b1
  have c0 := hx1.cell 0; have c1 := hx1.cell 1; have c2 := hx1.cell 2; have c3 := hx1.cell 3; have c4 := hx1.cell 4; have c5 := hx1.cell 5; have c6 := hx1.cell 6; have c7 := hx1.cell 7
  simp only [List.getElem?_cons_zero, List.getElem?_cons_succ] at c0 c1 c2 c3 c4 c5 c6 c7
  clear b1 hx1
  go_wp2
  go_ret2
  exact ⟨rfl, HB1.out⟩
set_option maxRecDepth 100000 in
set_option maxHeartbeats 4000000 in
theorem hol_out (rest : List Bool) (hr : rest.length = 7) (v : Value) (rules : List Rl) (y : Int) (w : World) (h : RdE elRl w v rules) (h0 : calE rest rules = 0) (hy : y < 1 ∨ 9998 < y) : Calls Try.prog 12 #[cV rest v, .int .i64 y] w (RetB (.tuple #[.slice none 0 0, .int .i64 3]) w) := by
  have hc := cal_of hr h0
  have HRD := Lib.hid h
  obtain ⟨a, cap, rfl, g1, g2, g3⟩ := h
  clear g3
  have CC : RowKit.Hid (∀ w', Below w.heap.size w w' → Calls Try.prog 15 #[cV rest (.slice a rules.length cap)] w' (IntB (calE rest rules) w')) := Lib.hid (fun w' hb => check_any rest hr _ rules w' (HRD.out.below hb))
  have CM : RowKit.Hid (∀ w', Below w.heap.size w w' → Calls Try.prog 36 #[cV rest (.slice a rules.length cap)] w' (MadeQ rest (.slice a rules.length cap) rules w')) := Lib.hid (fun w' hb => made_any rest hr _ rules w' (HRD.out.below hb))
  obtain ⟨b0, b1, b2, b3, b4, b5, b6, hbs⟩ := len7 hr
  have hcv : cV rest (.slice a rules.length cap) = .agg #[.bool b0, .bool b1, .bool b2, .bool b3, .bool b4, .bool b5, .bool b6, .slice a rules.length cap] := by rw [hbs]; rfl
  have HB0 := Lib.hid ((br w).alloc (Nat.le_refl _) (.cells #[.bool b0, .bool b1, .bool b2, .bool b3, .bool b4, .bool b5, .bool b6, .slice a rules.length cap] 25))
  have HX := Lib.hid (Box.new w 25 (calB b0 b1 b2 b3 b4 b5 b6 (.slice a rules.length cap)))
  rw [hcv] at CC CM ⊢
  clear hbs hcv
  rw [h0] at CC
  clear h0
  clear hc CM
  by_cases hy1 : y < 1
  · clear hy
    go_enter Try.func12, Try.ntmps12
    go_wp2_with fail
    refine (CC.out _ HB0.out).mono ?_
    rintro en w1 ⟨rfl, b1⟩
    have HB1 := Lib.hid (bt HB0.out b1)
    have hx1 := HX.out.next b1
    have c0 := hx1.cell 0; have c1 := hx1.cell 1; have c2 := hx1.cell 2; have c3 := hx1.cell 3; have c4 := hx1.cell 4; have c5 := hx1.cell 5; have c6 := hx1.cell 6; have c7 := hx1.cell 7
    simp only [List.getElem?_cons_zero, List.getElem?_cons_succ] at c0 c1 c2 c3 c4 c5 c6 c7
    clear b1 hx1
    go_wp2
    go_ret2
    exact ⟨rfl, HB1.out⟩
  · have hy2 : 9998 < y := by omega
    clear hy
    go_enter Try.func12, Try.ntmps12
    go_wp2_with fail
    refine (CC.out _ HB0.out).mono ?_
    rintro en w1 ⟨rfl, b1⟩
    have HB1 := Lib.hid (bt HB0.out b1)
    have hx1 := HX.out.next b1
    have c0 := hx1.cell 0; have c1 := hx1.cell 1; have c2 := hx1.cell 2; have c3 := hx1.cell 3; have c4 := hx1.cell 4; have c5 := hx1.cell 5; have c6 := hx1.cell 6; have c7 := hx1.cell 7
    simp only [List.getElem?_cons_zero, List.getElem?_cons_succ] at c0 c1 c2 c3 c4 c5 c6 c7
    clear b1 hx1
    go_wp2
    go_ret2
    exact ⟨rfl, HB1.out⟩
set_option maxRecDepth 100000 in
set_option maxHeartbeats 4000000 in
theorem hol_in (rest : List Bool) (hr : rest.length = 7) (v : Value) (rules : List Rl) (y : Int) (w : World) (h : RdE elRl w v rules) (h0 : calE rest rules = 0) (hy : 1 ≤ y ∧ y ≤ 9998) : Calls Try.prog 12 #[cV rest v, .int .i64 y] w (fun e w' => ∃ u, e = .returned (.tuple #[u, .int .i64 0]) ∧ RdE elZ w' u (hol rest rules y) ∧ Below w.heap.size w w') := by
  have hc := cal_of hr h0
  have HRD := Lib.hid h
  obtain ⟨a, cap, rfl, g1, g2, g3⟩ := h
  clear g3
  have CC : RowKit.Hid (∀ w', Below w.heap.size w w' → Calls Try.prog 15 #[cV rest (.slice a rules.length cap)] w' (IntB (calE rest rules) w')) := Lib.hid (fun w' hb => check_any rest hr _ rules w' (HRD.out.below hb))
  have CM : RowKit.Hid (∀ w', Below w.heap.size w w' → Calls Try.prog 36 #[cV rest (.slice a rules.length cap)] w' (MadeQ rest (.slice a rules.length cap) rules w')) := Lib.hid (fun w' hb => made_any rest hr _ rules w' (HRD.out.below hb))
  obtain ⟨b0, b1, b2, b3, b4, b5, b6, hbs⟩ := len7 hr
  have hcv : cV rest (.slice a rules.length cap) = .agg #[.bool b0, .bool b1, .bool b2, .bool b3, .bool b4, .bool b5, .bool b6, .slice a rules.length cap] := by rw [hbs]; rfl
  have HB0 := Lib.hid ((br w).alloc (Nat.le_refl _) (.cells #[.bool b0, .bool b1, .bool b2, .bool b3, .bool b4, .bool b5, .bool b6, .slice a rules.length cap] 25))
  have HX := Lib.hid (Box.new w 25 (calB b0 b1 b2 b3 b4 b5 b6 (.slice a rules.length cap)))
  rw [hcv] at CC CM ⊢
  clear hbs hcv
  rw [h0] at CC
  clear h0
  obtain ⟨y1, y2⟩ := hy
  have C3 : RowKit.Hid (∀ A M w, Alm w A M rest (.slice a rules.length cap) rules → Calls Try.prog 37 #[pA A, .int .i64 y] w (OfAQ A M rest (.slice a rules.length cap) rules (hol rest rules y) w)) := Lib.hid (fun A M w h => of_any A M rest hc.len hc.some_ _ rules hc.ok hc.many y y1 (by omega) w h)
  clear hc
  go_enter Try.func12, Try.ntmps12
  go_wp2_with fail
  refine (CC.out _ HB0.out).mono ?_
  rintro en w1 ⟨rfl, b1⟩
  have HB1 := Lib.hid (bt HB0.out b1)
  have hx1 := HX.out.next b1
  have c0 := hx1.cell 0; have c1 := hx1.cell 1; have c2 := hx1.cell 2; have c3 := hx1.cell 3; have c4 := hx1.cell 4; have c5 := hx1.cell 5; have c6 := hx1.cell 6; have c7 := hx1.cell 7
  simp only [List.getElem?_cons_zero, List.getElem?_cons_succ] at c0 c1 c2 c3 c4 c5 c6 c7
  clear b1 hx1
  go_wp2_with fail
  refine (CM.out _ HB1.out).mono ?_
  rintro en w2 ⟨A, M, rfl, ha, b2, hM⟩
  have HB2 := Lib.hid (bt HB1.out b2)
  have HA2 := Lib.hid ha
  have HM : RowKit.Hid (w.heap.size ≤ M) := Lib.hid (Nat.le_trans HB1.out.size hM)
  clear b2 hM ha
  go_wp2_with fail
  refine (C3.out A M _ HA2.out).mono ?_
  rintro en w3 ⟨u, rfl, hu, ha3, hg3⟩
  have HU := Lib.hid hu
  have HB3 := Lib.hid (bbg HB2.out hg3 (Nat.le_refl _) HM.out)
  clear ha3 hg3 hu
  go_wp2
  go_ret2
  exact ⟨_, rfl, HU.out, HB3.out⟩
theorem hol_any (rest : List Bool) (hr : rest.length = 7) (v : Value) (rules : List Rl) (y : Int) (w : World) (h : RdE elRl w v rules) : Calls Try.prog 12 #[cV rest v, .int .i64 y] w (fun e w' => ∃ u, e = .returned (.tuple #[u, .int .i64 (holF rest rules y).2]) ∧ RdE elZ w' u ((holF rest rules y).1) ∧ Below w.heap.size w w') := by
  by_cases h0 : calE rest rules = 0
  · by_cases hy : y < 1 ∨ 9998 < y
    · have e : holF rest rules y = ([], 3) := by unfold holF; rw [if_neg (fun h => h h0), if_pos hy]
      rw [e]
      refine (hol_out rest hr v rules y w h h0 hy).mono ?_
      rintro en w1 ⟨rfl, b1⟩
      exact ⟨_, rfl, Rd.nil _, b1⟩
    · have e : holF rest rules y = (hol rest rules y, 0) := by unfold holF; rw [if_neg (fun h => h h0), if_neg hy]
      rw [e]
      exact hol_in rest hr v rules y w h h0 (by omega)
  · have e : holF rest rules y = ([], calE rest rules) := by unfold holF; rw [if_pos h0]
    rw [e]
    refine (hol_err rest hr v rules y w h h0).mono ?_
    rintro en w1 ⟨rfl, b1⟩
    exact ⟨_, rfl, Rd.nil _, b1⟩
set_option maxRecDepth 100000 in
set_option maxHeartbeats 4000000 in
theorem addP_err (rest : List Bool) (hr : rest.length = 7) (v : Value) (rules : List Rl) (n many : Int) (w : World) (h : RdE elRl w v rules) (h0 : calE rest rules ≠ 0) : Calls Try.prog 18 #[cV rest v, .int .i64 n, .int .i64 many] w (RetB (.tuple #[.int .i64 0, .int .i64 (calE rest rules)]) w) := by
  have HRD := Lib.hid h
  obtain ⟨a, cap, rfl, g1, g2, g3⟩ := h
  clear g3
  have CC : RowKit.Hid (∀ w', Below w.heap.size w w' → Calls Try.prog 15 #[cV rest (.slice a rules.length cap)] w' (IntB (calE rest rules) w')) := Lib.hid (fun w' hb => check_any rest hr _ rules w' (HRD.out.below hb))
  have CM : RowKit.Hid (∀ w', Below w.heap.size w w' → Calls Try.prog 36 #[cV rest (.slice a rules.length cap)] w' (MadeQ rest (.slice a rules.length cap) rules w')) := Lib.hid (fun w' hb => made_any rest hr _ rules w' (HRD.out.below hb))
  obtain ⟨b0, b1, b2, b3, b4, b5, b6, hbs⟩ := len7 hr
  have hcv : cV rest (.slice a rules.length cap) = .agg #[.bool b0, .bool b1, .bool b2, .bool b3, .bool b4, .bool b5, .bool b6, .slice a rules.length cap] := by rw [hbs]; rfl
  have HB0 := Lib.hid ((br w).alloc (Nat.le_refl _) (.cells #[.bool b0, .bool b1, .bool b2, .bool b3, .bool b4, .bool b5, .bool b6, .slice a rules.length cap] 25))
  have HX := Lib.hid (Box.new w 25 (calB b0 b1 b2 b3 b4 b5 b6 (.slice a rules.length cap)))
  rw [hcv] at CC CM ⊢
  clear hbs hcv
  obtain ⟨E, hE⟩ : ∃ E, calE rest rules = E := ⟨_, rfl⟩
  rw [hE] at CC h0 ⊢
  have hz : (E == 0) = false := by simpa using h0
  clear hE h0 CM
  go_enter Try.func18, Try.ntmps18
  go_wp2_with fail
  refine (CC.out _ HB0.out).mono ?_
  rintro en w1 ⟨rfl, b1⟩
  have HB1 := Lib.hid (bt HB0.out b1)
  have hx1 := HX.out.next b1
  have c0 := hx1.cell 0; have c1 := hx1.cell 1; have c2 := hx1.cell 2; have c3 := hx1.cell 3; have c4 := hx1.cell 4; have c5 := hx1.cell 5; have c6 := hx1.cell 6; have c7 := hx1.cell 7
  simp only [List.getElem?_cons_zero, List.getElem?_cons_succ] at c0 c1 c2 c3 c4 c5 c6 c7
  clear b1 hx1
  go_wp2
  go_ret2
  exact ⟨rfl, HB1.out⟩
set_option maxRecDepth 100000 in
set_option maxHeartbeats 4000000 in
theorem addP_out (rest : List Bool) (hr : rest.length = 7) (v : Value) (rules : List Rl) (n many : Int) (w : World) (h : RdE elRl w v rules) (h0 : calE rest rules = 0) (hy : inB n = false ∨ many < 0 ∨ 400 < many) : Calls Try.prog 18 #[cV rest v, .int .i64 n, .int .i64 many] w (RetB (.tuple #[.int .i64 0, .int .i64 3]) w) := by
  have hc := cal_of hr h0
  have HRD := Lib.hid h
  obtain ⟨a, cap, rfl, g1, g2, g3⟩ := h
  clear g3
  have CC : RowKit.Hid (∀ w', Below w.heap.size w w' → Calls Try.prog 15 #[cV rest (.slice a rules.length cap)] w' (IntB (calE rest rules) w')) := Lib.hid (fun w' hb => check_any rest hr _ rules w' (HRD.out.below hb))
  have CM : RowKit.Hid (∀ w', Below w.heap.size w w' → Calls Try.prog 36 #[cV rest (.slice a rules.length cap)] w' (MadeQ rest (.slice a rules.length cap) rules w')) := Lib.hid (fun w' hb => made_any rest hr _ rules w' (HRD.out.below hb))
  obtain ⟨b0, b1, b2, b3, b4, b5, b6, hbs⟩ := len7 hr
  have hcv : cV rest (.slice a rules.length cap) = .agg #[.bool b0, .bool b1, .bool b2, .bool b3, .bool b4, .bool b5, .bool b6, .slice a rules.length cap] := by rw [hbs]; rfl
  have HB0 := Lib.hid ((br w).alloc (Nat.le_refl _) (.cells #[.bool b0, .bool b1, .bool b2, .bool b3, .bool b4, .bool b5, .bool b6, .slice a rules.length cap] 25))
  have HX := Lib.hid (Box.new w 25 (calB b0 b1 b2 b3 b4 b5 b6 (.slice a rules.length cap)))
  rw [hcv] at CC CM ⊢
  clear hbs hcv
  rw [h0] at CC
  clear h0
  have CI : RowKit.Hid (∀ w, Calls Try.prog 45 #[.int .i64 n] w fun e w' => e = .returned (.bool (inB n)) ∧ w = w') := Lib.hid (in_any n)
  clear hc CM
  by_cases hy1 : inB n = false
  · rw [hy1] at CI
    clear hy hy1
    go_enter Try.func18, Try.ntmps18
    go_wp2_with fail
    refine (CC.out _ HB0.out).mono ?_
    rintro en w1 ⟨rfl, b1⟩
    have HB1 := Lib.hid (bt HB0.out b1)
    have hx1 := HX.out.next b1
    have c0 := hx1.cell 0; have c1 := hx1.cell 1; have c2 := hx1.cell 2; have c3 := hx1.cell 3; have c4 := hx1.cell 4; have c5 := hx1.cell 5; have c6 := hx1.cell 6; have c7 := hx1.cell 7
    simp only [List.getElem?_cons_zero, List.getElem?_cons_succ] at c0 c1 c2 c3 c4 c5 c6 c7
    clear b1 hx1
    go_wp2_with fail
    refine (CI.out _).mono ?_
    rintro en w2 ⟨rfl, e2⟩
    subst e2
    go_wp2
    go_ret2
    exact ⟨rfl, HB1.out⟩
  · have hy1' : inB n = true := by simpa using hy1
    rw [hy1'] at CI
    by_cases hy2 : many < 0
    · clear hy hy1 hy1'
      go_enter Try.func18, Try.ntmps18
      go_wp2_with fail
      refine (CC.out _ HB0.out).mono ?_
      rintro en w1 ⟨rfl, b1⟩
      have HB1 := Lib.hid (bt HB0.out b1)
      have hx1 := HX.out.next b1
      have c0 := hx1.cell 0; have c1 := hx1.cell 1; have c2 := hx1.cell 2; have c3 := hx1.cell 3; have c4 := hx1.cell 4; have c5 := hx1.cell 5; have c6 := hx1.cell 6; have c7 := hx1.cell 7
      simp only [List.getElem?_cons_zero, List.getElem?_cons_succ] at c0 c1 c2 c3 c4 c5 c6 c7
      clear b1 hx1
      go_wp2_with fail
      refine (CI.out _).mono ?_
      rintro en w2 ⟨rfl, e2⟩
      subst e2
      go_wp2
      go_ret2
      exact ⟨rfl, HB1.out⟩
    · have hy3 : 400 < many := by rcases hy with h | h | h <;> simp_all
      clear hy hy1 hy1'
      go_enter Try.func18, Try.ntmps18
      go_wp2_with fail
      refine (CC.out _ HB0.out).mono ?_
      rintro en w1 ⟨rfl, b1⟩
      have HB1 := Lib.hid (bt HB0.out b1)
      have hx1 := HX.out.next b1
      have c0 := hx1.cell 0; have c1 := hx1.cell 1; have c2 := hx1.cell 2; have c3 := hx1.cell 3; have c4 := hx1.cell 4; have c5 := hx1.cell 5; have c6 := hx1.cell 6; have c7 := hx1.cell 7
      simp only [List.getElem?_cons_zero, List.getElem?_cons_succ] at c0 c1 c2 c3 c4 c5 c6 c7
      clear b1 hx1
      go_wp2_with fail
      refine (CI.out _).mono ?_
      rintro en w2 ⟨rfl, e2⟩
      subst e2
      go_wp2
      go_ret2
      exact ⟨rfl, HB1.out⟩
set_option maxRecDepth 100000 in
set_option maxHeartbeats 4000000 in
theorem addP_in (rest : List Bool) (hr : rest.length = 7) (v : Value) (rules : List Rl) (n many : Int) (w : World) (h : RdE elRl w v rules) (h0 : calE rest rules = 0) (hn : inB n = true) (hm1 : 0 ≤ many) (hm2 : many ≤ 400) : Calls Try.prog 18 #[cV rest v, .int .i64 n, .int .i64 many] w (RetB (.tuple #[.int .i64 (adds rest rules many.toNat n).1, .int .i64 (adds rest rules many.toNat n).2]) w) := by
  have hc := cal_of hr h0
  have HRD := Lib.hid h
  obtain ⟨a, cap, rfl, g1, g2, g3⟩ := h
  clear g3
  have CC : RowKit.Hid (∀ w', Below w.heap.size w w' → Calls Try.prog 15 #[cV rest (.slice a rules.length cap)] w' (IntB (calE rest rules) w')) := Lib.hid (fun w' hb => check_any rest hr _ rules w' (HRD.out.below hb))
  have CM : RowKit.Hid (∀ w', Below w.heap.size w w' → Calls Try.prog 36 #[cV rest (.slice a rules.length cap)] w' (MadeQ rest (.slice a rules.length cap) rules w')) := Lib.hid (fun w' hb => made_any rest hr _ rules w' (HRD.out.below hb))
  obtain ⟨b0, b1, b2, b3, b4, b5, b6, hbs⟩ := len7 hr
  have hcv : cV rest (.slice a rules.length cap) = .agg #[.bool b0, .bool b1, .bool b2, .bool b3, .bool b4, .bool b5, .bool b6, .slice a rules.length cap] := by rw [hbs]; rfl
  have HB0 := Lib.hid ((br w).alloc (Nat.le_refl _) (.cells #[.bool b0, .bool b1, .bool b2, .bool b3, .bool b4, .bool b5, .bool b6, .slice a rules.length cap] 25))
  have HX := Lib.hid (Box.new w 25 (calB b0 b1 b2 b3 b4 b5 b6 (.slice a rules.length cap)))
  rw [hcv] at CC CM ⊢
  clear hbs hcv
  rw [h0] at CC
  clear h0
  have CI : RowKit.Hid (∀ w, Calls Try.prog 45 #[.int .i64 n] w fun e w' => e = .returned (.bool (inB n)) ∧ w = w') := Lib.hid (in_any n)
  rw [hn] at CI
  have C3 : RowKit.Hid (∀ k A M w, Alm w A M rest (.slice a rules.length cap) rules → Calls Try.prog 46 #[pA A, .int .i64 k] w (AlmQ A M rest (.slice a rules.length cap) rules (.tuple #[.int .i64 (nextF rest rules k).1, .int .i64 (nextF rest rules k).2]) w)) := Lib.hid (fun k A M w h => next_any A M rest _ rules hc k w h)
  have HIN : RowKit.Hid (∀ k, nextF rest rules k = (0, 3) ∨ ∃ m, nextF rest rules k = (m, 0) ∧ k ≤ m ∧ inB m = true ∧ isW rest rules m = true ∧ ∀ j, k ≤ j → j < m → inB j = true ∧ isW rest rules j = false) := Lib.hid (nextF_in rest rules)
  have HS : RowKit.Hid (∀ k n, adds rest rules (k + 1) n = if (nextF rest rules (n + 1)).2 ≠ 0 then (0, (nextF rest rules (n + 1)).2) else adds rest rules k (nextF rest rules (n + 1)).1) := Lib.hid (fun _ _ => rfl)
  have HZ0 : RowKit.Hid (∀ n, adds rest rules 0 n = (n, 0)) := Lib.hid (fun _ => rfl)
  obtain ⟨t, rfl⟩ : ∃ t : Nat, many = t := ⟨many.toNat, by omega⟩
  rw [Int.toNat_natCast]
  obtain ⟨Z, hZ⟩ : ∃ Z, adds rest rules t n = Z := ⟨_, rfl⟩
  rw [hZ]
  have HZ := Lib.hid hZ
  have HN := Lib.hid hn
  have HM2 := Lib.hid hm2
  clear hZ hc hm1 hn
  go_enter Try.func18, Try.ntmps18
  go_wp2_with fail
  refine (CC.out _ HB0.out).mono ?_
  rintro en w1 ⟨rfl, b1⟩
  have HB1 := Lib.hid (bt HB0.out b1)
  have hx1 := HX.out.next b1
  have c0 := hx1.cell 0; have c1 := hx1.cell 1; have c2 := hx1.cell 2; have c3 := hx1.cell 3; have c4 := hx1.cell 4; have c5 := hx1.cell 5; have c6 := hx1.cell 6; have c7 := hx1.cell 7
  simp only [List.getElem?_cons_zero, List.getElem?_cons_succ] at c0 c1 c2 c3 c4 c5 c6 c7
  clear b1 hx1
  go_wp2_with fail
  refine (CI.out _).mono ?_
  rintro en w2 ⟨rfl, e2⟩
  subst e2
  go_wp2_with fail
  refine (CM.out _ HB1.out).mono ?_
  rintro en w2 ⟨A, M, rfl, ha, b2, hM⟩
  have HB2 := Lib.hid (bt HB1.out b2)
  have HA2 := Lib.hid ha
  have HM : RowKit.Hid (w.heap.size ≤ M) := Lib.hid (Nat.le_trans HB1.out.size hM)
  clear b2 hM ha
  clear c0 c1 c2 c3 c4 c5 c6 c7 HX CC CM CI
  go_wp2
  go_loopw [1, 31] (fun x i wr => ∃ (k : Nat) (q : Int), k ≤ t ∧ i = .int .i64 k ∧ x = .int .i64 q ∧ inB q = true ∧ adds rest rules (t - k) q = Z ∧ Alm wr A M rest (.slice a rules.length cap) rules ∧ Below w.heap.size w wr) (fun _ i _ => t - (intOf i).toNat)
  case atStart => exact ⟨0, n, Nat.zero_le _, rfl, rfl, HN.out, HZ.out, HA2.out, HB2.out⟩
  case round =>
    obtain ⟨k, q, hk, rfl, rfl, hq, hz, ha, hb⟩ := hrel
    have HBK := Lib.hid hb; have HAK := Lib.hid ha
    obtain ⟨q1, q2⟩ := (inB_iff q).1 hq
    clear HA2 HB2 HZ HN hb ha hq
    by_cases hlt : k < t
    · obtain ⟨j, hj⟩ : ∃ j, t - k = j + 1 := ⟨t - k - 1, by omega⟩
      have hj2 : RowKit.Hid (t - (k + 1) = j) := Lib.hid (by omega)
      have i1 : (k : Int) < (t : Int) := by omega
      rw [hj, HS.out] at hz
      have CK := Lib.hid (C3.out (q + 1) A M wr HAK.out)
      clear hj
      rcases HIN.out (q + 1) with h3 | ⟨m, h3, h4, h5, _, _⟩
      · rw [h3] at hz CK
        simp only at hz CK
        rw [if_pos (by decide)] at hz
        have HZK := Lib.hid hz
        clear hz h3
        go_wp2_with fail
        refine CK.out.mono ?_
        rintro en w4 ⟨rfl, ha4, hg4⟩
        have HB4 := Lib.hid (bbg HBK.out hg4 (Nat.le_refl _) HM.out)
        clear ha4 hg4
        go_wp2
        go_ret2
        exact ⟨by rw [← HZK.out]; rfl, HB4.out⟩
      · rw [h3] at hz CK
        simp only at hz CK
        rw [if_neg (by decide)] at hz
        have HZK := Lib.hid hz
        have H5 := Lib.hid h5
        clear hz h3 h5 h4
        go_wp2_with fail
        refine CK.out.mono ?_
        rintro en w4 ⟨rfl, ha4, hg4⟩
        have HB4 := Lib.hid (bbg HBK.out hg4 (Nat.le_refl _) HM.out)
        have HA4 := Lib.hid ha4
        clear ha4 hg4
        go_wp2
        go_roundw
        case rel => exact ⟨k + 1, m, by omega, by first | rfl | go_num, rfl, H5.out, by rw [hj2.out]; exact HZK.out, HA4.out, HB4.out⟩
        case measure => simp [intOf]; omega
    · have hkk : k = t := by omega
      subst hkk
      rw [Nat.sub_self, HZ0.out] at hz
      have HZK := Lib.hid hz
      clear hz
      go_wp2
      go_ret2
      exact ⟨by rw [← HZK.out]; rfl, HBK.out⟩
theorem addP_any (rest : List Bool) (hr : rest.length = 7) (v : Value) (rules : List Rl) (n many : Int) (w : World) (h : RdE elRl w v rules) : Calls Try.prog 18 #[cV rest v, .int .i64 n, .int .i64 many] w (RetB (.tuple #[.int .i64 (addP rest rules n many).1, .int .i64 (addP rest rules n many).2]) w) := by
  by_cases h0 : calE rest rules = 0
  · have e : addP rest rules n many = addF rest rules n many := by unfold addP; rw [if_neg (fun h => h h0)]
    rw [e]
    by_cases hy : inB n = false ∨ many < 0 ∨ 400 < many
    · have e : addF rest rules n many = (0, 3) := by unfold addF; rw [if_pos hy]
      rw [e]; exact addP_out rest hr v rules n many w h h0 hy
    · have e : addF rest rules n many = adds rest rules many.toNat n := by unfold addF; rw [if_neg hy]
      rw [e]
      have hn : inB n = true := by cases hb : inB n with
        | true => rfl
        | false => exact absurd (.inl hb) hy
      exact addP_in rest hr v rules n many w h h0 hn (by omega) (by omega)
  · have e : addP rest rules n many = (0, calE rest rules) := by unfold addP; rw [if_pos h0]
    rw [e]; exact addP_err rest hr v rules n many w h h0
set_option maxRecDepth 100000 in
set_option maxHeartbeats 4000000 in
theorem countP_err (rest : List Bool) (hr : rest.length = 7) (v : Value) (rules : List Rl) (x y : Int) (w : World) (h : RdE elRl w v rules) (h0 : calE rest rules ≠ 0) : Calls Try.prog 19 #[cV rest v, .int .i64 x, .int .i64 y] w (RetB (.tuple #[.int .i64 0, .int .i64 (calE rest rules)]) w) := by
  have HRD := Lib.hid h
  obtain ⟨a, cap, rfl, g1, g2, g3⟩ := h
  clear g3
  have CC : RowKit.Hid (∀ w', Below w.heap.size w w' → Calls Try.prog 15 #[cV rest (.slice a rules.length cap)] w' (IntB (calE rest rules) w')) := Lib.hid (fun w' hb => check_any rest hr _ rules w' (HRD.out.below hb))
  have CM : RowKit.Hid (∀ w', Below w.heap.size w w' → Calls Try.prog 36 #[cV rest (.slice a rules.length cap)] w' (MadeQ rest (.slice a rules.length cap) rules w')) := Lib.hid (fun w' hb => made_any rest hr _ rules w' (HRD.out.below hb))
  obtain ⟨b0, b1, b2, b3, b4, b5, b6, hbs⟩ := len7 hr
  have hcv : cV rest (.slice a rules.length cap) = .agg #[.bool b0, .bool b1, .bool b2, .bool b3, .bool b4, .bool b5, .bool b6, .slice a rules.length cap] := by rw [hbs]; rfl
  have HB0 := Lib.hid ((br w).alloc (Nat.le_refl _) (.cells #[.bool b0, .bool b1, .bool b2, .bool b3, .bool b4, .bool b5, .bool b6, .slice a rules.length cap] 25))
  have HX := Lib.hid (Box.new w 25 (calB b0 b1 b2 b3 b4 b5 b6 (.slice a rules.length cap)))
  rw [hcv] at CC CM ⊢
  clear hbs hcv
  obtain ⟨E, hE⟩ : ∃ E, calE rest rules = E := ⟨_, rfl⟩
  rw [hE] at CC h0 ⊢
  have hz : (E == 0) = false := by simpa using h0
  clear hE h0 CM
  go_enter Try.func19, Try.ntmps19
  go_wp2_with fail
  refine (CC.out _ HB0.out).mono ?_
  rintro en w1 ⟨rfl, b1⟩
  have HB1 := Lib.hid (bt HB0.out b1)
  have hx1 := HX.out.next b1
  have c0 := hx1.cell 0; have c1 := hx1.cell 1; have c2 := hx1.cell 2; have c3 := hx1.cell 3; have c4 := hx1.cell 4; have c5 := hx1.cell 5; have c6 := hx1.cell 6; have c7 := hx1.cell 7
  simp only [List.getElem?_cons_zero, List.getElem?_cons_succ] at c0 c1 c2 c3 c4 c5 c6 c7
  clear b1 hx1
  go_wp2
  go_ret2
  exact ⟨rfl, HB1.out⟩
set_option maxRecDepth 100000 in
set_option maxHeartbeats 4000000 in
theorem countP_1 (rest : List Bool) (hr : rest.length = 7) (v : Value) (rules : List Rl) (x y : Int) (w : World) (h : RdE elRl w v rules) (h0 : calE rest rules = 0) (hx : inB x = false) : Calls Try.prog 19 #[cV rest v, .int .i64 x, .int .i64 y] w (RetB (.tuple #[.int .i64 0, .int .i64 3]) w) := by
  have hc := cal_of hr h0
  have HRD := Lib.hid h
  obtain ⟨a, cap, rfl, g1, g2, g3⟩ := h
  clear g3
  have CC : RowKit.Hid (∀ w', Below w.heap.size w w' → Calls Try.prog 15 #[cV rest (.slice a rules.length cap)] w' (IntB (calE rest rules) w')) := Lib.hid (fun w' hb => check_any rest hr _ rules w' (HRD.out.below hb))
  have CM : RowKit.Hid (∀ w', Below w.heap.size w w' → Calls Try.prog 36 #[cV rest (.slice a rules.length cap)] w' (MadeQ rest (.slice a rules.length cap) rules w')) := Lib.hid (fun w' hb => made_any rest hr _ rules w' (HRD.out.below hb))
  obtain ⟨b0, b1, b2, b3, b4, b5, b6, hbs⟩ := len7 hr
  have hcv : cV rest (.slice a rules.length cap) = .agg #[.bool b0, .bool b1, .bool b2, .bool b3, .bool b4, .bool b5, .bool b6, .slice a rules.length cap] := by rw [hbs]; rfl
  have HB0 := Lib.hid ((br w).alloc (Nat.le_refl _) (.cells #[.bool b0, .bool b1, .bool b2, .bool b3, .bool b4, .bool b5, .bool b6, .slice a rules.length cap] 25))
  have HX := Lib.hid (Box.new w 25 (calB b0 b1 b2 b3 b4 b5 b6 (.slice a rules.length cap)))
  rw [hcv] at CC CM ⊢
  clear hbs hcv
  rw [h0] at CC
  clear h0
  have CX : RowKit.Hid (∀ w, Calls Try.prog 45 #[.int .i64 x] w fun e w' => e = .returned (.bool (inB x)) ∧ w = w') := Lib.hid (in_any x)
  have CY : RowKit.Hid (∀ w, Calls Try.prog 45 #[.int .i64 y] w fun e w' => e = .returned (.bool (inB y)) ∧ w = w') := Lib.hid (in_any y)
  rw [hx] at CX; clear hx
  clear hc CM
  go_enter Try.func19, Try.ntmps19
  go_wp2_with fail
  refine (CC.out _ HB0.out).mono ?_
  rintro en w1 ⟨rfl, b1⟩
  have HB1 := Lib.hid (bt HB0.out b1)
  have hx1 := HX.out.next b1
  have c0 := hx1.cell 0; have c1 := hx1.cell 1; have c2 := hx1.cell 2; have c3 := hx1.cell 3; have c4 := hx1.cell 4; have c5 := hx1.cell 5; have c6 := hx1.cell 6; have c7 := hx1.cell 7
  simp only [List.getElem?_cons_zero, List.getElem?_cons_succ] at c0 c1 c2 c3 c4 c5 c6 c7
  clear b1 hx1
  go_wp2_with fail
  refine (CX.out _).mono ?_
  rintro en w2 ⟨rfl, e2⟩
  subst e2
  go_wp2
  go_ret2
  exact ⟨rfl, HB1.out⟩
set_option maxRecDepth 100000 in
set_option maxHeartbeats 4000000 in
theorem countP_2 (rest : List Bool) (hr : rest.length = 7) (v : Value) (rules : List Rl) (x y : Int) (w : World) (h : RdE elRl w v rules) (h0 : calE rest rules = 0) (hx : inB x = true) (hy : inB y = false) : Calls Try.prog 19 #[cV rest v, .int .i64 x, .int .i64 y] w (RetB (.tuple #[.int .i64 0, .int .i64 3]) w) := by
  have hc := cal_of hr h0
  have HRD := Lib.hid h
  obtain ⟨a, cap, rfl, g1, g2, g3⟩ := h
  clear g3
  have CC : RowKit.Hid (∀ w', Below w.heap.size w w' → Calls Try.prog 15 #[cV rest (.slice a rules.length cap)] w' (IntB (calE rest rules) w')) := Lib.hid (fun w' hb => check_any rest hr _ rules w' (HRD.out.below hb))
  have CM : RowKit.Hid (∀ w', Below w.heap.size w w' → Calls Try.prog 36 #[cV rest (.slice a rules.length cap)] w' (MadeQ rest (.slice a rules.length cap) rules w')) := Lib.hid (fun w' hb => made_any rest hr _ rules w' (HRD.out.below hb))
  obtain ⟨b0, b1, b2, b3, b4, b5, b6, hbs⟩ := len7 hr
  have hcv : cV rest (.slice a rules.length cap) = .agg #[.bool b0, .bool b1, .bool b2, .bool b3, .bool b4, .bool b5, .bool b6, .slice a rules.length cap] := by rw [hbs]; rfl
  have HB0 := Lib.hid ((br w).alloc (Nat.le_refl _) (.cells #[.bool b0, .bool b1, .bool b2, .bool b3, .bool b4, .bool b5, .bool b6, .slice a rules.length cap] 25))
  have HX := Lib.hid (Box.new w 25 (calB b0 b1 b2 b3 b4 b5 b6 (.slice a rules.length cap)))
  rw [hcv] at CC CM ⊢
  clear hbs hcv
  rw [h0] at CC
  clear h0
  have CX : RowKit.Hid (∀ w, Calls Try.prog 45 #[.int .i64 x] w fun e w' => e = .returned (.bool (inB x)) ∧ w = w') := Lib.hid (in_any x)
  have CY : RowKit.Hid (∀ w, Calls Try.prog 45 #[.int .i64 y] w fun e w' => e = .returned (.bool (inB y)) ∧ w = w') := Lib.hid (in_any y)
  rw [hx] at CX; rw [hy] at CY; clear hx hy
  clear hc CM
  go_enter Try.func19, Try.ntmps19
  go_wp2_with fail
  refine (CC.out _ HB0.out).mono ?_
  rintro en w1 ⟨rfl, b1⟩
  have HB1 := Lib.hid (bt HB0.out b1)
  have hx1 := HX.out.next b1
  have c0 := hx1.cell 0; have c1 := hx1.cell 1; have c2 := hx1.cell 2; have c3 := hx1.cell 3; have c4 := hx1.cell 4; have c5 := hx1.cell 5; have c6 := hx1.cell 6; have c7 := hx1.cell 7
  simp only [List.getElem?_cons_zero, List.getElem?_cons_succ] at c0 c1 c2 c3 c4 c5 c6 c7
  clear b1 hx1
  go_wp2_with fail
  refine (CX.out _).mono ?_
  rintro en w2 ⟨rfl, e2⟩
  subst e2
  go_wp2_with fail
  refine (CY.out _).mono ?_
  rintro en w2 ⟨rfl, e2⟩
  subst e2
  go_wp2
  go_ret2
  exact ⟨rfl, HB1.out⟩
set_option maxRecDepth 100000 in
set_option maxHeartbeats 4000000 in
theorem countP_3 (rest : List Bool) (hr : rest.length = 7) (v : Value) (rules : List Rl) (x y : Int) (w : World) (h : RdE elRl w v rules) (h0 : calE rest rules = 0) (hx : inB x = true) (hy : inB y = true) (hxy : y < x) : Calls Try.prog 19 #[cV rest v, .int .i64 x, .int .i64 y] w (RetB (.tuple #[.int .i64 0, .int .i64 4]) w) := by
  have hc := cal_of hr h0
  have HRD := Lib.hid h
  obtain ⟨a, cap, rfl, g1, g2, g3⟩ := h
  clear g3
  have CC : RowKit.Hid (∀ w', Below w.heap.size w w' → Calls Try.prog 15 #[cV rest (.slice a rules.length cap)] w' (IntB (calE rest rules) w')) := Lib.hid (fun w' hb => check_any rest hr _ rules w' (HRD.out.below hb))
  have CM : RowKit.Hid (∀ w', Below w.heap.size w w' → Calls Try.prog 36 #[cV rest (.slice a rules.length cap)] w' (MadeQ rest (.slice a rules.length cap) rules w')) := Lib.hid (fun w' hb => made_any rest hr _ rules w' (HRD.out.below hb))
  obtain ⟨b0, b1, b2, b3, b4, b5, b6, hbs⟩ := len7 hr
  have hcv : cV rest (.slice a rules.length cap) = .agg #[.bool b0, .bool b1, .bool b2, .bool b3, .bool b4, .bool b5, .bool b6, .slice a rules.length cap] := by rw [hbs]; rfl
  have HB0 := Lib.hid ((br w).alloc (Nat.le_refl _) (.cells #[.bool b0, .bool b1, .bool b2, .bool b3, .bool b4, .bool b5, .bool b6, .slice a rules.length cap] 25))
  have HX := Lib.hid (Box.new w 25 (calB b0 b1 b2 b3 b4 b5 b6 (.slice a rules.length cap)))
  rw [hcv] at CC CM ⊢
  clear hbs hcv
  rw [h0] at CC
  clear h0
  have CX : RowKit.Hid (∀ w, Calls Try.prog 45 #[.int .i64 x] w fun e w' => e = .returned (.bool (inB x)) ∧ w = w') := Lib.hid (in_any x)
  have CY : RowKit.Hid (∀ w, Calls Try.prog 45 #[.int .i64 y] w fun e w' => e = .returned (.bool (inB y)) ∧ w = w') := Lib.hid (in_any y)
  rw [hx] at CX; rw [hy] at CY; clear hx hy
  clear hc CM
  go_enter Try.func19, Try.ntmps19
  go_wp2_with fail
  refine (CC.out _ HB0.out).mono ?_
  rintro en w1 ⟨rfl, b1⟩
  have HB1 := Lib.hid (bt HB0.out b1)
  have hx1 := HX.out.next b1
  have c0 := hx1.cell 0; have c1 := hx1.cell 1; have c2 := hx1.cell 2; have c3 := hx1.cell 3; have c4 := hx1.cell 4; have c5 := hx1.cell 5; have c6 := hx1.cell 6; have c7 := hx1.cell 7
  simp only [List.getElem?_cons_zero, List.getElem?_cons_succ] at c0 c1 c2 c3 c4 c5 c6 c7
  clear b1 hx1
  go_wp2_with fail
  refine (CX.out _).mono ?_
  rintro en w2 ⟨rfl, e2⟩
  subst e2
  go_wp2_with fail
  refine (CY.out _).mono ?_
  rintro en w2 ⟨rfl, e2⟩
  subst e2
  go_wp2
  go_ret2
  exact ⟨rfl, HB1.out⟩
set_option maxRecDepth 100000 in
set_option maxHeartbeats 4000000 in
theorem countP_4 (rest : List Bool) (hr : rest.length = 7) (v : Value) (rules : List Rl) (x y : Int) (w : World) (h : RdE elRl w v rules) (h0 : calE rest rules = 0) (hx : inB x = true) (hy : inB y = true) (hxy : ¬ y < x) (hxy2 : 2000 < y - x) : Calls Try.prog 19 #[cV rest v, .int .i64 x, .int .i64 y] w (RetB (.tuple #[.int .i64 0, .int .i64 2]) w) := by
  have hc := cal_of hr h0
  have HRD := Lib.hid h
  obtain ⟨a, cap, rfl, g1, g2, g3⟩ := h
  clear g3
  have CC : RowKit.Hid (∀ w', Below w.heap.size w w' → Calls Try.prog 15 #[cV rest (.slice a rules.length cap)] w' (IntB (calE rest rules) w')) := Lib.hid (fun w' hb => check_any rest hr _ rules w' (HRD.out.below hb))
  have CM : RowKit.Hid (∀ w', Below w.heap.size w w' → Calls Try.prog 36 #[cV rest (.slice a rules.length cap)] w' (MadeQ rest (.slice a rules.length cap) rules w')) := Lib.hid (fun w' hb => made_any rest hr _ rules w' (HRD.out.below hb))
  obtain ⟨b0, b1, b2, b3, b4, b5, b6, hbs⟩ := len7 hr
  have hcv : cV rest (.slice a rules.length cap) = .agg #[.bool b0, .bool b1, .bool b2, .bool b3, .bool b4, .bool b5, .bool b6, .slice a rules.length cap] := by rw [hbs]; rfl
  have HB0 := Lib.hid ((br w).alloc (Nat.le_refl _) (.cells #[.bool b0, .bool b1, .bool b2, .bool b3, .bool b4, .bool b5, .bool b6, .slice a rules.length cap] 25))
  have HX := Lib.hid (Box.new w 25 (calB b0 b1 b2 b3 b4 b5 b6 (.slice a rules.length cap)))
  rw [hcv] at CC CM ⊢
  clear hbs hcv
  rw [h0] at CC
  clear h0
  have CX : RowKit.Hid (∀ w, Calls Try.prog 45 #[.int .i64 x] w fun e w' => e = .returned (.bool (inB x)) ∧ w = w') := Lib.hid (in_any x)
  have CY : RowKit.Hid (∀ w, Calls Try.prog 45 #[.int .i64 y] w fun e w' => e = .returned (.bool (inB y)) ∧ w = w') := Lib.hid (in_any y)
  obtain ⟨x1, x2⟩ := (inB_iff x).1 hx; obtain ⟨y1, y2⟩ := (inB_iff y).1 hy; rw [hx] at CX; rw [hy] at CY; clear hx hy
  clear hc CM
  go_enter Try.func19, Try.ntmps19
  go_wp2_with fail
  refine (CC.out _ HB0.out).mono ?_
  rintro en w1 ⟨rfl, b1⟩
  have HB1 := Lib.hid (bt HB0.out b1)
  have hx1 := HX.out.next b1
  have c0 := hx1.cell 0; have c1 := hx1.cell 1; have c2 := hx1.cell 2; have c3 := hx1.cell 3; have c4 := hx1.cell 4; have c5 := hx1.cell 5; have c6 := hx1.cell 6; have c7 := hx1.cell 7
  simp only [List.getElem?_cons_zero, List.getElem?_cons_succ] at c0 c1 c2 c3 c4 c5 c6 c7
  clear b1 hx1
  go_wp2_with fail
  refine (CX.out _).mono ?_
  rintro en w2 ⟨rfl, e2⟩
  subst e2
  go_wp2_with fail
  refine (CY.out _).mono ?_
  rintro en w2 ⟨rfl, e2⟩
  subst e2
  go_wp2
  go_ret2
  exact ⟨rfl, HB1.out⟩
set_option maxRecDepth 100000 in
set_option maxHeartbeats 4000000 in
theorem countP_in (rest : List Bool) (hr : rest.length = 7) (v : Value) (rules : List Rl) (x y : Int) (w : World) (h : RdE elRl w v rules) (h0 : calE rest rules = 0) (hx : inB x = true) (hy : inB y = true) (hxy : ¬ y < x) (hxy2 : ¬ 2000 < y - x) : Calls Try.prog 19 #[cV rest v, .int .i64 x, .int .i64 y] w (RetB (.tuple #[.int .i64 (cnt rest rules x (y - x).toNat), .int .i64 0]) w) := by
  have hc := cal_of hr h0
  have HRD := Lib.hid h
  obtain ⟨a, cap, rfl, g1, g2, g3⟩ := h
  clear g3
  have CC : RowKit.Hid (∀ w', Below w.heap.size w w' → Calls Try.prog 15 #[cV rest (.slice a rules.length cap)] w' (IntB (calE rest rules) w')) := Lib.hid (fun w' hb => check_any rest hr _ rules w' (HRD.out.below hb))
  have CM : RowKit.Hid (∀ w', Below w.heap.size w w' → Calls Try.prog 36 #[cV rest (.slice a rules.length cap)] w' (MadeQ rest (.slice a rules.length cap) rules w')) := Lib.hid (fun w' hb => made_any rest hr _ rules w' (HRD.out.below hb))
  obtain ⟨b0, b1, b2, b3, b4, b5, b6, hbs⟩ := len7 hr
  have hcv : cV rest (.slice a rules.length cap) = .agg #[.bool b0, .bool b1, .bool b2, .bool b3, .bool b4, .bool b5, .bool b6, .slice a rules.length cap] := by rw [hbs]; rfl
  have HB0 := Lib.hid ((br w).alloc (Nat.le_refl _) (.cells #[.bool b0, .bool b1, .bool b2, .bool b3, .bool b4, .bool b5, .bool b6, .slice a rules.length cap] 25))
  have HX := Lib.hid (Box.new w 25 (calB b0 b1 b2 b3 b4 b5 b6 (.slice a rules.length cap)))
  rw [hcv] at CC CM ⊢
  clear hbs hcv
  rw [h0] at CC
  clear h0
  have CX : RowKit.Hid (∀ w, Calls Try.prog 45 #[.int .i64 x] w fun e w' => e = .returned (.bool (inB x)) ∧ w = w') := Lib.hid (in_any x)
  have CY : RowKit.Hid (∀ w, Calls Try.prog 45 #[.int .i64 y] w fun e w' => e = .returned (.bool (inB y)) ∧ w = w') := Lib.hid (in_any y)
  obtain ⟨x1, x2⟩ := (inB_iff x).1 hx; obtain ⟨y1, y2⟩ := (inB_iff y).1 hy; rw [hx] at CX; rw [hy] at CY; clear hx hy
  have C3 : RowKit.Hid (∀ k A M w, 1 ≤ k → k ≤ 3651693 → Alm w A M rest (.slice a rules.length cap) rules → Calls Try.prog 47 #[pA A, .int .i64 k] w (AlmQ A M rest (.slice a rules.length cap) rules (.bool (isW rest rules k)) w)) := Lib.hid (fun k A M w k1 k2 h => is_any A M rest _ rules hc k k1 k2 w h)
  have HCB := Lib.hid (cnt_bd rest rules x)
  have HCS : RowKit.Hid (∀ k : Nat, cnt rest rules x (k + 1) = cnt rest rules x k + if isW rest rules (x + k) = true then 1 else 0) := Lib.hid (fun _ => rfl)
  obtain ⟨t, ht⟩ : ∃ t : Nat, y = x + t := ⟨(y - x).toNat, by omega⟩
  have HT : RowKit.Hid ((y - x).toNat = t) := Lib.hid (by omega)
  have ht2 : (t : Int) ≤ 2000 := by omega
  have HTY := Lib.hid ht
  clear hc ht
  go_enter Try.func19, Try.ntmps19
  go_wp2_with fail
  refine (CC.out _ HB0.out).mono ?_
  rintro en w1 ⟨rfl, b1⟩
  have HB1 := Lib.hid (bt HB0.out b1)
  have hx1 := HX.out.next b1
  have c0 := hx1.cell 0; have c1 := hx1.cell 1; have c2 := hx1.cell 2; have c3 := hx1.cell 3; have c4 := hx1.cell 4; have c5 := hx1.cell 5; have c6 := hx1.cell 6; have c7 := hx1.cell 7
  simp only [List.getElem?_cons_zero, List.getElem?_cons_succ] at c0 c1 c2 c3 c4 c5 c6 c7
  clear b1 hx1
  go_wp2_with fail
  refine (CX.out _).mono ?_
  rintro en w2 ⟨rfl, e2⟩
  subst e2
  go_wp2_with fail
  refine (CY.out _).mono ?_
  rintro en w2 ⟨rfl, e2⟩
  subst e2
  go_wp2_with fail
  refine (CM.out _ HB1.out).mono ?_
  rintro en w2 ⟨A, M, rfl, ha, b2, hM⟩
  have HB2 := Lib.hid (bt HB1.out b2)
  have HA2 := Lib.hid ha
  have HM : RowKit.Hid (w.heap.size ≤ M) := Lib.hid (Nat.le_trans HB1.out.size hM)
  clear b2 hM ha
  clear c0 c1 c2 c3 c4 c5 c6 c7 HX CC CM CX CY
  go_wp2
  go_loopw [10, 11] (fun m i wr => ∃ k : Nat, k ≤ t ∧ i = .int .i64 (x + k) ∧ m = .int .i64 (cnt rest rules x k) ∧ Alm wr A M rest (.slice a rules.length cap) rules ∧ Below w.heap.size w wr) (fun _ i _ => (y - intOf i).toNat)
  case atStart => exact ⟨0, Nat.zero_le _, by simp, rfl, HA2.out, HB2.out⟩
  case round =>
    obtain ⟨k, hk, rfl, rfl, ha, hb⟩ := hrel
    have HBK := Lib.hid hb; have HAK := Lib.hid ha
    clear HA2 HB2 hb ha
    by_cases hlt : k < t
    · obtain ⟨q, hq⟩ : ∃ q, x + (k : Int) = q := ⟨_, rfl⟩
      have hcb := HCB.out k
      have hcs := HCS.out k
      rw [hq] at hcs ⊢
      have q1 : 1 ≤ q := by omega
      have q2 : q < y := by have := HTY.out; omega
      have HQ : RowKit.Hid (x + ((k + 1 : Nat) : Int) = q + 1) := Lib.hid (by omega)
      obtain ⟨cc, hcc⟩ : ∃ cc, cnt rest rules x k = cc := ⟨_, rfl⟩
      rw [hcc] at hcs hcb ⊢
      have CK := Lib.hid (C3.out q A M wr q1 (by omega) HAK.out)
      clear hcc hq
      obtain ⟨b, hb'⟩ : ∃ b, isW rest rules q = b := ⟨_, rfl⟩
      rw [hb'] at CK hcs
      clear hb'
      cases b with
      | true =>
        rw [if_pos rfl] at hcs
        have HC := Lib.hid hcs
        clear hcs
        go_wp2_with fail
        refine CK.out.mono ?_
        rintro en w4 ⟨rfl, ha4, hg4⟩
        have HB4 := Lib.hid (bbg HBK.out hg4 (Nat.le_refl _) HM.out)
        have HA4 := Lib.hid ha4
        clear ha4 hg4
        go_wp2
        go_roundw
        case rel => exact ⟨k + 1, by omega, by rw [HQ.out], by rw [HC.out], HA4.out, HB4.out⟩
        case measure => simp [intOf]; omega
      | false =>
        rw [if_neg (by simp), Int.add_zero] at hcs
        have HC := Lib.hid hcs
        clear hcs
        go_wp2_with fail
        refine CK.out.mono ?_
        rintro en w4 ⟨rfl, ha4, hg4⟩
        have HB4 := Lib.hid (bbg HBK.out hg4 (Nat.le_refl _) HM.out)
        have HA4 := Lib.hid ha4
        clear ha4 hg4
        go_wp2
        go_roundw
        case rel => exact ⟨k + 1, by omega, by rw [HQ.out], by rw [HC.out], HA4.out, HB4.out⟩
        case measure => simp [intOf]; omega
    · have hkk : k = t := by omega
      subst hkk
      have hq : ¬ x + (k : Int) < y := by have := HTY.out; omega
      go_wp2
      go_ret2
      exact ⟨by rw [HT.out]; rfl, HBK.out⟩
theorem countP_any (rest : List Bool) (hr : rest.length = 7) (v : Value) (rules : List Rl) (x y : Int) (w : World) (h : RdE elRl w v rules) : Calls Try.prog 19 #[cV rest v, .int .i64 x, .int .i64 y] w (RetB (.tuple #[.int .i64 (countP rest rules x y).1, .int .i64 (countP rest rules x y).2]) w) := by
  by_cases h0 : calE rest rules = 0
  · have e : countP rest rules x y = countF rest rules x y := by unfold countP; rw [if_neg (fun h => h h0)]
    rw [e]
    unfold countF
    cases hx : inB x with
    | false => rw [if_pos (.inl rfl)]; exact countP_1 rest hr v rules x y w h h0 hx
    | true =>
      cases hy : inB y with
      | false => rw [if_pos (.inr rfl)]; exact countP_2 rest hr v rules x y w h h0 hx hy
      | true =>
        rw [if_neg (by simp)]
        by_cases hxy : y < x
        · rw [if_pos hxy]; exact countP_3 rest hr v rules x y w h h0 hx hy hxy
        · rw [if_neg hxy]
          by_cases hxy2 : 2000 < y - x
          · rw [if_pos hxy2]; exact countP_4 rest hr v rules x y w h h0 hx hy hxy hxy2
          · rw [if_neg hxy2]; exact countP_in rest hr v rules x y w h h0 hx hy hxy hxy2
  · have e : countP rest rules x y = (0, calE rest rules) := by unfold countP; rw [if_pos h0]
    rw [e]; exact countP_err rest hr v rules x y w h h0
end Wk
end Go.Proofs.Ytjicpflgkhdppaa
