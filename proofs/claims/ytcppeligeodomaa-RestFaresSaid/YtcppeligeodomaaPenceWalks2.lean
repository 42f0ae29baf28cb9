/- Package pence: Part. -/
import Derived.Test.YtcppeligeodomaaPenceWalks
set_option linter.unusedVariables false
namespace Go.Proofs.Ytcppeligeodomaa
open Go.RowKit
namespace Pn
theorem func_nil (f : Fn) (a c : Array Value) (w : World) : Sem.run Try.prog (binOp BinOp.eql 68 (.func f a c) .nilFunc) w = .ok (.bool false) w := by
  kernel_rfl
theorem nil_nil (w : World) : Sem.run Try.prog (binOp BinOp.eql 68 .nilFunc .nilFunc) w = .ok (.bool true) w := by
  kernel_rfl
def PartQ (p num den way : Int) (w : World) (e : Ending) (w' : World) : Prop := e = .returned (.tuple #[.int .i64 (part p num den way).1, .int .i64 (part p num den way).2]) ∧ Below w.heap.size w w'
theorem part_bad0 (p num den way : Int) (w : World) (h : ¬ isA p) : Calls Try.prog 37 #[.int .i64 p, .int .i64 num, .int .i64 den, .int .i64 way] w (PartQ p num den way w) := by
  have ht : part p num den way = (0, 3) := by unfold part; rw [if_pos h]
  have Ht := Lib.hid ht; clear ht
  have H := Lib.hid h; clear h
  by_cases hw : okW way
  · rcases (show way = 1 ∨ way = 2 ∨ way = 3 ∨ way = 4 by unfold okW at hw; omega) with rfl | rfl | rfl | rfl
    all_goals clear hw
    all_goals go_enter Try.func37, Try.ntmps37
    all_goals go_wp2_with fail
    · refine (rounder1 _).mono ?_
      rintro en w1 ⟨rfl, rfl⟩
      go_wp2_with fail
      refine (is_any p false _ (decide_eq_false H.out)).mono ?_
      rintro en w1 ⟨rfl, rfl⟩
      go_wp2
      go_ret2
      exact ⟨by rw [Ht.out]; rfl, br _⟩
    · refine (rounder2 _).mono ?_
      rintro en w1 ⟨rfl, rfl⟩
      go_wp2_with fail
      refine (is_any p false _ (decide_eq_false H.out)).mono ?_
      rintro en w1 ⟨rfl, rfl⟩
      go_wp2
      go_ret2
      exact ⟨by rw [Ht.out]; rfl, br _⟩
    · refine (rounder3 _).mono ?_
      rintro en w1 ⟨rfl, rfl⟩
      go_wp2_with fail
      refine (is_any p false _ (decide_eq_false H.out)).mono ?_
      rintro en w1 ⟨rfl, rfl⟩
      go_wp2
      go_ret2
      exact ⟨by rw [Ht.out]; rfl, br _⟩
    · refine (rounder4 _).mono ?_
      rintro en w1 ⟨rfl, rfl⟩
      go_wp2_with fail
      refine (is_any p false _ (decide_eq_false H.out)).mono ?_
      rintro en w1 ⟨rfl, rfl⟩
      go_wp2
      go_ret2
      exact ⟨by rw [Ht.out]; rfl, br _⟩
  · have Hw := Lib.hid hw; clear hw
    go_enter Try.func37, Try.ntmps37
    go_wp2_with fail
    refine (rounder0 way _ Hw.out).mono ?_
    rintro en w1 ⟨rfl, rfl⟩
    go_wp2_with fail
    refine (is_any p false _ (decide_eq_false H.out)).mono ?_
    rintro en w1 ⟨rfl, rfl⟩
    go_wp2
    go_ret2
    exact ⟨by rw [Ht.out]; rfl, br _⟩
theorem part_bad1 (p num den way : Int) (w : World) (h : isA p) (hw : ¬ okW way) : Calls Try.prog 37 #[.int .i64 p, .int .i64 num, .int .i64 den, .int .i64 way] w (PartQ p num den way w) := by
  have ht : part p num den way = (0, 7) := by unfold part; rw [if_neg (fun x => x h), if_pos hw]
  have Ht := Lib.hid ht; clear ht
  have H := Lib.hid h; clear h
  have Hw := Lib.hid hw; clear hw
  have fn0 := nil_nil
  go_enter Try.func37, Try.ntmps37
  go_wp2_with fail
  refine (rounder0 way _ Hw.out).mono ?_
  rintro en w1 ⟨rfl, rfl⟩
  go_wp2_with fail
  refine (is_any p true _ (decide_eq_true H.out)).mono ?_
  rintro en w1 ⟨rfl, rfl⟩
  go_wp2
  go_ret2
  exact ⟨by rw [Ht.out]; rfl, br _⟩
set_option maxHeartbeats 1000000 in
theorem part_bad2_1 (p num den : Int) (w : World) (h : RowKit.Hid (isA p)) (hc : num < 0 ∨ 100000 < num ∨ (0 ≤ num ∧ num ≤ 100000 ∧ den < 1) ∨ (0 ≤ num ∧ num ≤ 100000 ∧ 1 ≤ den ∧ 100000 < den)) (Ht : RowKit.Hid (part p num den 1 = (0, 3))) : Calls Try.prog 37 #[.int .i64 p, .int .i64 num, .int .i64 den, .int .i64 1] w (PartQ p num den 1 w) := by
  have fn1 := func_nil (.func 62) #[] #[]
  rcases hc with h1 | h1 | ⟨h1, h2, h3⟩ | ⟨h1, h2, h3, h4⟩
  all_goals
    go_enter Try.func37, Try.ntmps37
    go_wp2_with fail
    refine (rounder1 _).mono ?_
    rintro en w1 ⟨rfl, rfl⟩
    go_wp2_with fail
    refine (is_any p true _ (decide_eq_true h.out)).mono ?_
    rintro en w1 ⟨rfl, rfl⟩
    go_wp2
    go_ret2
    exact ⟨by rw [Ht.out]; rfl, br _⟩
set_option maxHeartbeats 1000000 in
theorem part_bad2_2 (p num den : Int) (w : World) (h : RowKit.Hid (isA p)) (hc : num < 0 ∨ 100000 < num ∨ (0 ≤ num ∧ num ≤ 100000 ∧ den < 1) ∨ (0 ≤ num ∧ num ≤ 100000 ∧ 1 ≤ den ∧ 100000 < den)) (Ht : RowKit.Hid (part p num den 2 = (0, 3))) : Calls Try.prog 37 #[.int .i64 p, .int .i64 num, .int .i64 den, .int .i64 2] w (PartQ p num den 2 w) := by
  have fn1 := func_nil (.func 63) #[] #[]
  rcases hc with h1 | h1 | ⟨h1, h2, h3⟩ | ⟨h1, h2, h3, h4⟩
  all_goals
    go_enter Try.func37, Try.ntmps37
    go_wp2_with fail
    refine (rounder2 _).mono ?_
    rintro en w1 ⟨rfl, rfl⟩
    go_wp2_with fail
    refine (is_any p true _ (decide_eq_true h.out)).mono ?_
    rintro en w1 ⟨rfl, rfl⟩
    go_wp2
    go_ret2
    exact ⟨by rw [Ht.out]; rfl, br _⟩
set_option maxHeartbeats 1000000 in
theorem part_bad2_3 (p num den : Int) (w : World) (h : RowKit.Hid (isA p)) (hc : num < 0 ∨ 100000 < num ∨ (0 ≤ num ∧ num ≤ 100000 ∧ den < 1) ∨ (0 ≤ num ∧ num ≤ 100000 ∧ 1 ≤ den ∧ 100000 < den)) (Ht : RowKit.Hid (part p num den 3 = (0, 3))) : Calls Try.prog 37 #[.int .i64 p, .int .i64 num, .int .i64 den, .int .i64 3] w (PartQ p num den 3 w) := by
  have fn1 := func_nil (.func 64) #[] #[]
  rcases hc with h1 | h1 | ⟨h1, h2, h3⟩ | ⟨h1, h2, h3, h4⟩
  all_goals
    go_enter Try.func37, Try.ntmps37
    go_wp2_with fail
    refine (rounder3 _).mono ?_
    rintro en w1 ⟨rfl, rfl⟩
    go_wp2_with fail
    refine (is_any p true _ (decide_eq_true h.out)).mono ?_
    rintro en w1 ⟨rfl, rfl⟩
    go_wp2
    go_ret2
    exact ⟨by rw [Ht.out]; rfl, br _⟩
set_option maxHeartbeats 1000000 in
theorem part_bad2_4 (p num den : Int) (w : World) (h : RowKit.Hid (isA p)) (hc : num < 0 ∨ 100000 < num ∨ (0 ≤ num ∧ num ≤ 100000 ∧ den < 1) ∨ (0 ≤ num ∧ num ≤ 100000 ∧ 1 ≤ den ∧ 100000 < den)) (Ht : RowKit.Hid (part p num den 4 = (0, 3))) : Calls Try.prog 37 #[.int .i64 p, .int .i64 num, .int .i64 den, .int .i64 4] w (PartQ p num den 4 w) := by
  have fn1 := func_nil (.func 65) #[] #[]
  rcases hc with h1 | h1 | ⟨h1, h2, h3⟩ | ⟨h1, h2, h3, h4⟩
  all_goals
    go_enter Try.func37, Try.ntmps37
    go_wp2_with fail
    refine (rounder4 _).mono ?_
    rintro en w1 ⟨rfl, rfl⟩
    go_wp2_with fail
    refine (is_any p true _ (decide_eq_true h.out)).mono ?_
    rintro en w1 ⟨rfl, rfl⟩
    go_wp2
    go_ret2
    exact ⟨by rw [Ht.out]; rfl, br _⟩
theorem part_bad2 (p num den way : Int) (w : World) (h : isA p) (hw : okW way) (hn : ¬ okN num den) : Calls Try.prog 37 #[.int .i64 p, .int .i64 num, .int .i64 den, .int .i64 way] w (PartQ p num den way w) := by
  have ht : part p num den way = (0, 3) := by unfold part; rw [if_neg (fun x => x h), if_neg (fun x => x hw), if_pos hn]
  have hc : num < 0 ∨ 100000 < num ∨ (0 ≤ num ∧ num ≤ 100000 ∧ den < 1) ∨ (0 ≤ num ∧ num ≤ 100000 ∧ 1 ≤ den ∧ 100000 < den) := by unfold okN at hn; omega
  rcases (show way = 1 ∨ way = 2 ∨ way = 3 ∨ way = 4 by unfold okW at hw; omega) with rfl | rfl | rfl | rfl
  · exact part_bad2_1 p num den w (Lib.hid h) hc (Lib.hid ht)
  · exact part_bad2_2 p num den w (Lib.hid h) hc (Lib.hid ht)
  · exact part_bad2_3 p num den w (Lib.hid h) hc (Lib.hid ht)
  · exact part_bad2_4 p num den w (Lib.hid h) hc (Lib.hid ht)
set_option maxHeartbeats 1000000 in
theorem part_pos (p num den way x q r : Int) (b : Bool) (w : World) (h0 : 0 ≤ p) (h1 : p ≤ 1099511627776) (hw : RowKit.Hid (okW way)) (hn : 0 ≤ num ∧ num ≤ 100000) (hd : 1 ≤ den ∧ den ≤ 100000)
    (hx : p * num = x) (hx0 : 0 ≤ x) (hx1 : x ≤ 109951162777600000) (hq : x.tdiv den = q) (hr : x.tmod den = r) (hq0 : 0 ≤ q ∧ q ≤ 109951162777600000) (hr0 : 0 ≤ r ∧ r ≤ 100000) (B : RowKit.Hid (upB way q r den = b))
    (Ht : RowKit.Hid (part p num den way = told (q + if b then 1 else 0))) :
    Calls Try.prog 37 #[.int .i64 p, .int .i64 num, .int .i64 den, .int .i64 way] w (PartQ p num den way w) := by
  have fn1 := func_nil (.func 62) #[] #[]
  have fn2 := func_nil (.func 63) #[] #[]
  have fn3 := func_nil (.func 64) #[] #[]
  have fn4 := func_nil (.func 65) #[] #[]
  have hd0 : (den == 0) = false := beq_eq_false_iff_ne.2 (by omega)
  have s1 : IntKind.i64.wrap x = x := IntWalk.i64_in _ (by omega)
  have s2 : IntKind.i64.wrap q = q := IntWalk.i64_in _ (by omega)
  rcases (show way = 1 ∨ way = 2 ∨ way = 3 ∨ way = 4 by have := hw.out; unfold okW at this; omega) with rfl | rfl | rfl | rfl
  · go_enter Try.func37, Try.ntmps37
    go_wp2_with fail
    refine (rounder1 _).mono ?_
    rintro en w1 ⟨rfl, rfl⟩
    go_wp2_with fail
    refine (is_any p true _ (decide_eq_true ⟨by omega, by omega⟩)).mono ?_
    rintro en w1 ⟨rfl, rfl⟩
    go_wp2
    go_quiet (fail)
    go_wp2_with fail
    refine (up1 q r den _).mono ?_
    rintro en w1 ⟨rfl, he⟩
    subst he
    rw [B.out]
    cases b
    · go_wp2_with fail
      refine (told_any (q) _).mono ?_
      rintro en w1 ⟨rfl, he⟩
      subst he
      go_wp2
      go_ret2
      exact ⟨by rw [Ht.out]; simp, bn (br _) _⟩
    · go_wp2_with fail
      refine (told_any ((q + 1)) _).mono ?_
      rintro en w1 ⟨rfl, he⟩
      subst he
      go_wp2
      go_ret2
      exact ⟨by rw [Ht.out]; simp, bn (br _) _⟩
  · go_enter Try.func37, Try.ntmps37
    go_wp2_with fail
    refine (rounder2 _).mono ?_
    rintro en w1 ⟨rfl, rfl⟩
    go_wp2_with fail
    refine (is_any p true _ (decide_eq_true ⟨by omega, by omega⟩)).mono ?_
    rintro en w1 ⟨rfl, rfl⟩
    go_wp2
    go_quiet (fail)
    go_wp2_with fail
    refine (up2 q r den _).mono ?_
    rintro en w1 ⟨rfl, he⟩
    subst he
    rw [B.out]
    cases b
    · go_wp2_with fail
      refine (told_any (q) _).mono ?_
      rintro en w1 ⟨rfl, he⟩
      subst he
      go_wp2
      go_ret2
      exact ⟨by rw [Ht.out]; simp, bn (br _) _⟩
    · go_wp2_with fail
      refine (told_any ((q + 1)) _).mono ?_
      rintro en w1 ⟨rfl, he⟩
      subst he
      go_wp2
      go_ret2
      exact ⟨by rw [Ht.out]; simp, bn (br _) _⟩
  · go_enter Try.func37, Try.ntmps37
    go_wp2_with fail
    refine (rounder3 _).mono ?_
    rintro en w1 ⟨rfl, rfl⟩
    go_wp2_with fail
    refine (is_any p true _ (decide_eq_true ⟨by omega, by omega⟩)).mono ?_
    rintro en w1 ⟨rfl, rfl⟩
    go_wp2
    go_quiet (fail)
    go_wp2_with fail
    refine (up3 q r den _ hr0.1 hr0.2).mono ?_
    rintro en w1 ⟨rfl, he⟩
    subst he
    rw [B.out]
    cases b
    · go_wp2_with fail
      refine (told_any (q) _).mono ?_
      rintro en w1 ⟨rfl, he⟩
      subst he
      go_wp2
      go_ret2
      exact ⟨by rw [Ht.out]; simp, bn (br _) _⟩
    · go_wp2_with fail
      refine (told_any ((q + 1)) _).mono ?_
      rintro en w1 ⟨rfl, he⟩
      subst he
      go_wp2
      go_ret2
      exact ⟨by rw [Ht.out]; simp, bn (br _) _⟩
  · go_enter Try.func37, Try.ntmps37
    go_wp2_with fail
    refine (rounder4 _).mono ?_
    rintro en w1 ⟨rfl, rfl⟩
    go_wp2_with fail
    refine (is_any p true _ (decide_eq_true ⟨by omega, by omega⟩)).mono ?_
    rintro en w1 ⟨rfl, rfl⟩
    go_wp2
    go_quiet (fail)
    go_wp2_with fail
    refine (up4 q r den _ hr0.1 hr0.2 hq0.1).mono ?_
    rintro en w1 ⟨rfl, he⟩
    subst he
    rw [B.out]
    cases b
    · go_wp2_with fail
      refine (told_any (q) _).mono ?_
      rintro en w1 ⟨rfl, he⟩
      subst he
      go_wp2
      go_ret2
      exact ⟨by rw [Ht.out]; simp, bn (br _) _⟩
    · go_wp2_with fail
      refine (told_any ((q + 1)) _).mono ?_
      rintro en w1 ⟨rfl, he⟩
      subst he
      go_wp2
      go_ret2
      exact ⟨by rw [Ht.out]; simp, bn (br _) _⟩
set_option maxHeartbeats 1000000 in
theorem part_neg (p num den way x q r : Int) (b : Bool) (w : World) (h0 : p < 0) (h1 : -1099511627776 ≤ p) (hw : RowKit.Hid (okW way)) (hn : 0 ≤ num ∧ num ≤ 100000) (hd : 1 ≤ den ∧ den ≤ 100000)
    (hx : (-p) * num = x) (hx0 : 0 ≤ x) (hx1 : x ≤ 109951162777600000) (hq : x.tdiv den = q) (hr : x.tmod den = r) (hq0 : 0 ≤ q ∧ q ≤ 109951162777600000) (hr0 : 0 ≤ r ∧ r ≤ 100000) (B : RowKit.Hid (upB way q r den = b))
    (Ht : RowKit.Hid (part p num den way = told (-(q + if b then 1 else 0)))) :
    Calls Try.prog 37 #[.int .i64 p, .int .i64 num, .int .i64 den, .int .i64 way] w (PartQ p num den way w) := by
  have fn1 := func_nil (.func 62) #[] #[]
  have fn2 := func_nil (.func 63) #[] #[]
  have fn3 := func_nil (.func 64) #[] #[]
  have fn4 := func_nil (.func 65) #[] #[]
  have hd0 : (den == 0) = false := beq_eq_false_iff_ne.2 (by omega)
  have s1 : IntKind.i64.wrap x = x := IntWalk.i64_in _ (by omega)
  have s2 : IntKind.i64.wrap q = q := IntWalk.i64_in _ (by omega)
  rcases (show way = 1 ∨ way = 2 ∨ way = 3 ∨ way = 4 by have := hw.out; unfold okW at this; omega) with rfl | rfl | rfl | rfl
  · go_enter Try.func37, Try.ntmps37
    go_wp2_with fail
    refine (rounder1 _).mono ?_
    rintro en w1 ⟨rfl, rfl⟩
    go_wp2_with fail
    refine (is_any p true _ (decide_eq_true ⟨by omega, by omega⟩)).mono ?_
    rintro en w1 ⟨rfl, rfl⟩
    go_wp2
    go_quiet (fail)
    go_wp2_with fail
    refine (up1 q r den _).mono ?_
    rintro en w1 ⟨rfl, he⟩
    subst he
    rw [B.out]
    cases b
    · go_wp2_with fail
      refine (told_any (-q) _).mono ?_
      rintro en w1 ⟨rfl, he⟩
      subst he
      go_wp2
      go_ret2
      exact ⟨by rw [Ht.out]; simp, bn (br _) _⟩
    · go_wp2_with fail
      refine (told_any (-(q + 1)) _).mono ?_
      rintro en w1 ⟨rfl, he⟩
      subst he
      go_wp2
      go_ret2
      exact ⟨by rw [Ht.out]; simp, bn (br _) _⟩
  · go_enter Try.func37, Try.ntmps37
    go_wp2_with fail
    refine (rounder2 _).mono ?_
    rintro en w1 ⟨rfl, rfl⟩
    go_wp2_with fail
    refine (is_any p true _ (decide_eq_true ⟨by omega, by omega⟩)).mono ?_
    rintro en w1 ⟨rfl, rfl⟩
    go_wp2
    go_quiet (fail)
    go_wp2_with fail
    refine (up2 q r den _).mono ?_
    rintro en w1 ⟨rfl, he⟩
    subst he
    rw [B.out]
    cases b
    · go_wp2_with fail
      refine (told_any (-q) _).mono ?_
      rintro en w1 ⟨rfl, he⟩
      subst he
      go_wp2
      go_ret2
      exact ⟨by rw [Ht.out]; simp, bn (br _) _⟩
    · go_wp2_with fail
      refine (told_any (-(q + 1)) _).mono ?_
      rintro en w1 ⟨rfl, he⟩
      subst he
      go_wp2
      go_ret2
      exact ⟨by rw [Ht.out]; simp, bn (br _) _⟩
  · go_enter Try.func37, Try.ntmps37
    go_wp2_with fail
    refine (rounder3 _).mono ?_
    rintro en w1 ⟨rfl, rfl⟩
    go_wp2_with fail
    refine (is_any p true _ (decide_eq_true ⟨by omega, by omega⟩)).mono ?_
    rintro en w1 ⟨rfl, rfl⟩
    go_wp2
    go_quiet (fail)
    go_wp2_with fail
    refine (up3 q r den _ hr0.1 hr0.2).mono ?_
    rintro en w1 ⟨rfl, he⟩
    subst he
    rw [B.out]
    cases b
    · go_wp2_with fail
      refine (told_any (-q) _).mono ?_
      rintro en w1 ⟨rfl, he⟩
      subst he
      go_wp2
      go_ret2
      exact ⟨by rw [Ht.out]; simp, bn (br _) _⟩
    · go_wp2_with fail
      refine (told_any (-(q + 1)) _).mono ?_
      rintro en w1 ⟨rfl, he⟩
      subst he
      go_wp2
      go_ret2
      exact ⟨by rw [Ht.out]; simp, bn (br _) _⟩
  · go_enter Try.func37, Try.ntmps37
    go_wp2_with fail
    refine (rounder4 _).mono ?_
    rintro en w1 ⟨rfl, rfl⟩
    go_wp2_with fail
    refine (is_any p true _ (decide_eq_true ⟨by omega, by omega⟩)).mono ?_
    rintro en w1 ⟨rfl, rfl⟩
    go_wp2
    go_quiet (fail)
    go_wp2_with fail
    refine (up4 q r den _ hr0.1 hr0.2 hq0.1).mono ?_
    rintro en w1 ⟨rfl, he⟩
    subst he
    rw [B.out]
    cases b
    · go_wp2_with fail
      refine (told_any (-q) _).mono ?_
      rintro en w1 ⟨rfl, he⟩
      subst he
      go_wp2
      go_ret2
      exact ⟨by rw [Ht.out]; simp, bn (br _) _⟩
    · go_wp2_with fail
      refine (told_any (-(q + 1)) _).mono ?_
      rintro en w1 ⟨rfl, he⟩
      subst he
      go_wp2
      go_ret2
      exact ⟨by rw [Ht.out]; simp, bn (br _) _⟩
theorem part_any (p num den way : Int) (w : World) : Calls Try.prog 37 #[.int .i64 p, .int .i64 num, .int .i64 den, .int .i64 way] w (PartQ p num den way w) := by
  by_cases hp : isA p
  · by_cases hw : okW way
    · by_cases hn : okN num den
      · have ht := part_eq hp hw hn
        obtain ⟨hp0, hp1⟩ := hp
        obtain ⟨hn0, hn1, hd0, hd1⟩ := hn
        have key : ∀ a : Int, 0 ≤ a → a ≤ 1099511627776 → 0 ≤ a * num ∧ a * num ≤ 109951162777600000 := fun a h0 h1 => by
          have l1 := Int.mul_nonneg h0 hn0
          have l2 : a * num ≤ a * 100000 := Int.mul_le_mul_of_nonneg_left hn1 h0
          exact ⟨l1, by omega⟩
        by_cases hs : p < 0
        · have k := key (-p) (by omega) (by omega)
          have dq := div_spec (-p * num) den hd0
          have q0 := q_nonneg k.1 hd0 dq.1 dq.2.2
          have q1 : -p * num / den ≤ -p * num := Int.ediv_le_self _ k.1
          refine part_neg p num den way _ (-p * num / den) (-p * num % den) _ w hs hp0 (Lib.hid hw) ⟨hn0, hn1⟩ ⟨hd0, hd1⟩ rfl k.1 k.2 (Int.tdiv_eq_ediv_of_nonneg k.1) (Int.tmod_eq_emod_of_nonneg k.1) ⟨q0, by omega⟩ ⟨dq.2.1, by omega⟩ (Lib.hid rfl) (Lib.hid ?_)
          rw [ht]; unfold val mag; rw [if_pos hs]
        · have k := key p (by omega) (by omega)
          have dq := div_spec (p * num) den hd0
          have q0 := q_nonneg k.1 hd0 dq.1 dq.2.2
          have q1 : p * num / den ≤ p * num := Int.ediv_le_self _ k.1
          refine part_pos p num den way _ (p * num / den) (p * num % den) _ w (by omega) hp1 (Lib.hid hw) ⟨hn0, hn1⟩ ⟨hd0, hd1⟩ rfl k.1 k.2 (Int.tdiv_eq_ediv_of_nonneg k.1) (Int.tmod_eq_emod_of_nonneg k.1) ⟨q0, by omega⟩ ⟨dq.2.1, by omega⟩ (Lib.hid rfl) (Lib.hid ?_)
          rw [ht]; unfold val mag; rw [if_neg hs]
      · exact part_bad2 p num den way w hp hw hn
    · exact part_bad1 p num den way w hp hw
  · exact part_bad0 p num den way w hp
end Pn
end Go.Proofs.Ytcppeligeodomaa
