/- The document's Part. -/
import Derived.Test.YtcppeligeodomaaPenceWalks2
import Derived.Test.YtcppeligeodomaaPenceSum
import Derived.Test.YtcppeligeodomaaFloor
set_option linter.unusedVariables false
namespace Go.Proofs.Ytcppeligeodomaa
open Go.RowKit
namespace Pn
theorem floor_any (a b q : Int) (w : World) (h2 : -4611686018427387904 ≤ a ∧ a ≤ 4611686018427387904) (h1 : 1 ≤ b) (h3 : b ≤ 1000000000) (hq : a / b = q) : Calls Try.prog 57 #[.int .i64 a, .int .i64 b] w fun e w' => e = .returned (.int .i64 q) ∧ w = w' := by
  subst hq
  by_cases h : a < 0
  · exact floorDiv_neg a b w h h2.1 h1 h3
  · exact floorDiv_pos a b w (by omega) h2.2 h1
set_option maxHeartbeats 1000000 in
theorem partR_bad0 (p num den way : Int) (w : World) (h : RowKit.Hid (¬ isA p)) (Ht : RowKit.Hid (part p num den way = (0, 3))) : Calls Try.prog 39 #[.int .i64 p, .int .i64 num, .int .i64 den, .int .i64 way] w (PartQ p num den way w) := by
  go_enter Try.func39, Try.ntmps39
  go_wp2_with fail
  refine (noAmount_any p false _ (decide_eq_false h.out)).mono ?_
  rintro en w1 ⟨rfl, rfl⟩
  go_wp2
  go_ret2
  exact ⟨by rw [Ht.out]; rfl, br _⟩
set_option maxHeartbeats 1000000 in
theorem partR_bad1 (p num den way : Int) (w : World) (h : RowKit.Hid (isA p)) (hw : way < 1 ∨ (1 ≤ way ∧ 4 < way)) (Ht : RowKit.Hid (part p num den way = (0, 7))) : Calls Try.prog 39 #[.int .i64 p, .int .i64 num, .int .i64 den, .int .i64 way] w (PartQ p num den way w) := by
  rcases hw with h1 | ⟨h1, h2⟩
  all_goals
    go_enter Try.func39, Try.ntmps39
    go_wp2_with fail
    refine (noAmount_any p true _ (decide_eq_true h.out)).mono ?_
    rintro en w1 ⟨rfl, rfl⟩
    go_wp2
    go_ret2
    exact ⟨by rw [Ht.out]; rfl, br _⟩
set_option maxHeartbeats 1000000 in
theorem partR_bad2 (p num den way : Int) (w : World) (h : RowKit.Hid (isA p)) (hw1 : 1 ≤ way) (hw2 : way ≤ 4) (hc : num < 0 ∨ (0 ≤ num ∧ 100000 < num) ∨ (0 ≤ num ∧ num ≤ 100000 ∧ den < 1) ∨ (0 ≤ num ∧ num ≤ 100000 ∧ 1 ≤ den ∧ 100000 < den)) (Ht : RowKit.Hid (part p num den way = (0, 3))) : Calls Try.prog 39 #[.int .i64 p, .int .i64 num, .int .i64 den, .int .i64 way] w (PartQ p num den way w) := by
  rcases hc with h1 | ⟨h1, h2⟩ | ⟨h1, h2, h3⟩ | ⟨h1, h2, h3, h4⟩
  all_goals
    go_enter Try.func39, Try.ntmps39
    go_wp2_with fail
    refine (noAmount_any p true _ (decide_eq_true h.out)).mono ?_
    rintro en w1 ⟨rfl, rfl⟩
    go_wp2
    go_ret2
    exact ⟨by rw [Ht.out]; rfl, br _⟩
set_option maxHeartbeats 1000000 in
theorem rp10e (p num den x low bl ab : Int) (b : Bool) (w : World) (H : RowKit.Hid (isA p)) (hn0 : 0 ≤ num) (hn1 : num ≤ 100000) (hd0 : 1 ≤ den) (hd1 : den ≤ 100000) (hs : 0 ≤ p) (hx : p * num = x) (x0 : -110000000000000000 ≤ x) (x1 : x ≤ 110000000000000000) (L : RowKit.Hid (x / den = low)) (l0 : -110000000000000001 ≤ low) (l1 : low ≤ 110000000000000000) (m1 : low * den = x) (hb : decide (isA (low)) = b) (Ht : RowKit.Hid (part p num den 1 = told (low))) : Calls Try.prog 39 #[.int .i64 p, .int .i64 num, .int .i64 den, .int .i64 1] w (PartQ p num den 1 w) := by
  have s1 : IntKind.i64.wrap x = x := IntWalk.i64_in _ (by omega)
  have Hb := Lib.hid hb; clear hb
  go_enter Try.func39, Try.ntmps39
  go_wp2_with fail
  refine (noAmount_any p true _ (decide_eq_true H.out)).mono ?_
  rintro en w1 ⟨rfl, rfl⟩
  go_wp2_with fail
  refine (floor_any x den low _ ⟨by omega, by omega⟩ hd0 (by omega) L.out).mono ?_
  rintro en w1 ⟨rfl, he⟩
  subst he
  go_wp2_with fail
  refine (noAmount_any (low) b _ Hb.out).mono ?_
  rintro en w1 ⟨rfl, he⟩
  subst he
  cases b
  · have ht : told (low) = (0, 8) := by unfold told; rw [if_neg (of_decide_eq_false Hb.out)]
    have HT := Lib.hid ht; clear ht
    go_wp2
    go_ret2
    exact ⟨by rw [Ht.out, HT.out]; rfl, br _⟩
  · have ht : told (low) = (low, 0) := by unfold told; rw [if_pos (of_decide_eq_true Hb.out)]
    have HT := Lib.hid ht; clear ht
    go_wp2
    go_ret2
    exact ⟨by rw [Ht.out, HT.out]; rfl, br _⟩
set_option maxHeartbeats 1000000 in
theorem rp10n (p num den x low bl ab : Int) (b : Bool) (w : World) (H : RowKit.Hid (isA p)) (hn0 : 0 ≤ num) (hn1 : num ≤ 100000) (hd0 : 1 ≤ den) (hd1 : den ≤ 100000) (hs : 0 ≤ p) (hx : p * num = x) (x0 : -110000000000000000 ≤ x) (x1 : x ≤ 110000000000000000) (L : RowKit.Hid (x / den = low)) (l0 : -110000000000000001 ≤ low) (l1 : low ≤ 110000000000000000) (m1 : low * den = x - bl) (m2 : (low + 1) * den = x + ab) (b0 : 0 < bl) (b1 : 0 < ab) (b2 : bl ≤ 100000) (b3 : ab ≤ 100000) (hb : decide (isA (low)) = b) (Ht : RowKit.Hid (part p num den 1 = told (low))) : Calls Try.prog 39 #[.int .i64 p, .int .i64 num, .int .i64 den, .int .i64 1] w (PartQ p num den 1 w) := by
  have s1 : IntKind.i64.wrap x = x := IntWalk.i64_in _ (by omega)
  have s2 : IntKind.i64.wrap (x - bl) = x - bl := IntWalk.i64_in _ (by omega)
  have ne : (x - bl != x) = true := by simp; omega
  have d1 : x - (x - bl) = bl := by omega
  have d2 : x + ab - x = ab := by omega
  have Hb := Lib.hid hb; clear hb
  go_enter Try.func39, Try.ntmps39
  go_wp2_with fail
  refine (noAmount_any p true _ (decide_eq_true H.out)).mono ?_
  rintro en w1 ⟨rfl, rfl⟩
  go_wp2_with fail
  refine (floor_any x den low _ ⟨by omega, by omega⟩ hd0 (by omega) L.out).mono ?_
  rintro en w1 ⟨rfl, he⟩
  subst he
  go_wp2_with fail
  refine (noAmount_any (low) b _ Hb.out).mono ?_
  rintro en w1 ⟨rfl, he⟩
  subst he
  cases b
  · have ht : told (low) = (0, 8) := by unfold told; rw [if_neg (of_decide_eq_false Hb.out)]
    have HT := Lib.hid ht; clear ht
    go_wp2
    go_ret2
    exact ⟨by rw [Ht.out, HT.out]; rfl, br _⟩
  · have ht : told (low) = (low, 0) := by unfold told; rw [if_pos (of_decide_eq_true Hb.out)]
    have HT := Lib.hid ht; clear ht
    go_wp2
    go_ret2
    exact ⟨by rw [Ht.out, HT.out]; rfl, br _⟩
set_option maxHeartbeats 1000000 in
theorem rp11e (p num den x low bl ab : Int) (b : Bool) (w : World) (H : RowKit.Hid (isA p)) (hn0 : 0 ≤ num) (hn1 : num ≤ 100000) (hd0 : 1 ≤ den) (hd1 : den ≤ 100000) (hs : p < 0) (hx : p * num = x) (x0 : -110000000000000000 ≤ x) (x1 : x ≤ 110000000000000000) (L : RowKit.Hid (x / den = low)) (l0 : -110000000000000001 ≤ low) (l1 : low ≤ 110000000000000000) (m1 : low * den = x) (hb : decide (isA (low)) = b) (Ht : RowKit.Hid (part p num den 1 = told (low))) : Calls Try.prog 39 #[.int .i64 p, .int .i64 num, .int .i64 den, .int .i64 1] w (PartQ p num den 1 w) := by
  have s1 : IntKind.i64.wrap x = x := IntWalk.i64_in _ (by omega)
  have Hb := Lib.hid hb; clear hb
  go_enter Try.func39, Try.ntmps39
  go_wp2_with fail
  refine (noAmount_any p true _ (decide_eq_true H.out)).mono ?_
  rintro en w1 ⟨rfl, rfl⟩
  go_wp2_with fail
  refine (floor_any x den low _ ⟨by omega, by omega⟩ hd0 (by omega) L.out).mono ?_
  rintro en w1 ⟨rfl, he⟩
  subst he
  go_wp2_with fail
  refine (noAmount_any (low) b _ Hb.out).mono ?_
  rintro en w1 ⟨rfl, he⟩
  subst he
  cases b
  · have ht : told (low) = (0, 8) := by unfold told; rw [if_neg (of_decide_eq_false Hb.out)]
    have HT := Lib.hid ht; clear ht
    go_wp2
    go_ret2
    exact ⟨by rw [Ht.out, HT.out]; rfl, br _⟩
  · have ht : told (low) = (low, 0) := by unfold told; rw [if_pos (of_decide_eq_true Hb.out)]
    have HT := Lib.hid ht; clear ht
    go_wp2
    go_ret2
    exact ⟨by rw [Ht.out, HT.out]; rfl, br _⟩
set_option maxHeartbeats 1000000 in
theorem rp11n (p num den x low bl ab : Int) (b : Bool) (w : World) (H : RowKit.Hid (isA p)) (hn0 : 0 ≤ num) (hn1 : num ≤ 100000) (hd0 : 1 ≤ den) (hd1 : den ≤ 100000) (hs : p < 0) (hx : p * num = x) (x0 : -110000000000000000 ≤ x) (x1 : x ≤ 110000000000000000) (L : RowKit.Hid (x / den = low)) (l0 : -110000000000000001 ≤ low) (l1 : low ≤ 110000000000000000) (m1 : low * den = x - bl) (m2 : (low + 1) * den = x + ab) (b0 : 0 < bl) (b1 : 0 < ab) (b2 : bl ≤ 100000) (b3 : ab ≤ 100000) (hb : decide (isA (low + 1)) = b) (Ht : RowKit.Hid (part p num den 1 = told (low + 1))) : Calls Try.prog 39 #[.int .i64 p, .int .i64 num, .int .i64 den, .int .i64 1] w (PartQ p num den 1 w) := by
  have s1 : IntKind.i64.wrap x = x := IntWalk.i64_in _ (by omega)
  have s2 : IntKind.i64.wrap (x - bl) = x - bl := IntWalk.i64_in _ (by omega)
  have ne : (x - bl != x) = true := by simp; omega
  have d1 : x - (x - bl) = bl := by omega
  have d2 : x + ab - x = ab := by omega
  have Hb := Lib.hid hb; clear hb
  go_enter Try.func39, Try.ntmps39
  go_wp2_with fail
  refine (noAmount_any p true _ (decide_eq_true H.out)).mono ?_
  rintro en w1 ⟨rfl, rfl⟩
  go_wp2_with fail
  refine (floor_any x den low _ ⟨by omega, by omega⟩ hd0 (by omega) L.out).mono ?_
  rintro en w1 ⟨rfl, he⟩
  subst he
  go_wp2_with fail
  refine (noAmount_any (low + 1) b _ Hb.out).mono ?_
  rintro en w1 ⟨rfl, he⟩
  subst he
  cases b
  · have ht : told (low + 1) = (0, 8) := by unfold told; rw [if_neg (of_decide_eq_false Hb.out)]
    have HT := Lib.hid ht; clear ht
    go_wp2
    go_ret2
    exact ⟨by rw [Ht.out, HT.out]; rfl, br _⟩
  · have ht : told (low + 1) = (low + 1, 0) := by unfold told; rw [if_pos (of_decide_eq_true Hb.out)]
    have HT := Lib.hid ht; clear ht
    go_wp2
    go_ret2
    exact ⟨by rw [Ht.out, HT.out]; rfl, br _⟩
set_option maxHeartbeats 1000000 in
theorem rp20e (p num den x low bl ab : Int) (b : Bool) (w : World) (H : RowKit.Hid (isA p)) (hn0 : 0 ≤ num) (hn1 : num ≤ 100000) (hd0 : 1 ≤ den) (hd1 : den ≤ 100000) (hs : 0 ≤ p) (hx : p * num = x) (x0 : -110000000000000000 ≤ x) (x1 : x ≤ 110000000000000000) (L : RowKit.Hid (x / den = low)) (l0 : -110000000000000001 ≤ low) (l1 : low ≤ 110000000000000000) (m1 : low * den = x) (hb : decide (isA (low)) = b) (Ht : RowKit.Hid (part p num den 2 = told (low))) : Calls Try.prog 39 #[.int .i64 p, .int .i64 num, .int .i64 den, .int .i64 2] w (PartQ p num den 2 w) := by
  have s1 : IntKind.i64.wrap x = x := IntWalk.i64_in _ (by omega)
  have Hb := Lib.hid hb; clear hb
  go_enter Try.func39, Try.ntmps39
  go_wp2_with fail
  refine (noAmount_any p true _ (decide_eq_true H.out)).mono ?_
  rintro en w1 ⟨rfl, rfl⟩
  go_wp2_with fail
  refine (floor_any x den low _ ⟨by omega, by omega⟩ hd0 (by omega) L.out).mono ?_
  rintro en w1 ⟨rfl, he⟩
  subst he
  go_wp2_with fail
  refine (noAmount_any (low) b _ Hb.out).mono ?_
  rintro en w1 ⟨rfl, he⟩
  subst he
  cases b
  · have ht : told (low) = (0, 8) := by unfold told; rw [if_neg (of_decide_eq_false Hb.out)]
    have HT := Lib.hid ht; clear ht
    go_wp2
    go_ret2
    exact ⟨by rw [Ht.out, HT.out]; rfl, br _⟩
  · have ht : told (low) = (low, 0) := by unfold told; rw [if_pos (of_decide_eq_true Hb.out)]
    have HT := Lib.hid ht; clear ht
    go_wp2
    go_ret2
    exact ⟨by rw [Ht.out, HT.out]; rfl, br _⟩
set_option maxHeartbeats 1000000 in
theorem rp20n (p num den x low bl ab : Int) (b : Bool) (w : World) (H : RowKit.Hid (isA p)) (hn0 : 0 ≤ num) (hn1 : num ≤ 100000) (hd0 : 1 ≤ den) (hd1 : den ≤ 100000) (hs : 0 ≤ p) (hx : p * num = x) (x0 : -110000000000000000 ≤ x) (x1 : x ≤ 110000000000000000) (L : RowKit.Hid (x / den = low)) (l0 : -110000000000000001 ≤ low) (l1 : low ≤ 110000000000000000) (m1 : low * den = x - bl) (m2 : (low + 1) * den = x + ab) (b0 : 0 < bl) (b1 : 0 < ab) (b2 : bl ≤ 100000) (b3 : ab ≤ 100000) (hb : decide (isA (low + 1)) = b) (Ht : RowKit.Hid (part p num den 2 = told (low + 1))) : Calls Try.prog 39 #[.int .i64 p, .int .i64 num, .int .i64 den, .int .i64 2] w (PartQ p num den 2 w) := by
  have s1 : IntKind.i64.wrap x = x := IntWalk.i64_in _ (by omega)
  have s2 : IntKind.i64.wrap (x - bl) = x - bl := IntWalk.i64_in _ (by omega)
  have ne : (x - bl != x) = true := by simp; omega
  have d1 : x - (x - bl) = bl := by omega
  have d2 : x + ab - x = ab := by omega
  have Hb := Lib.hid hb; clear hb
  go_enter Try.func39, Try.ntmps39
  go_wp2_with fail
  refine (noAmount_any p true _ (decide_eq_true H.out)).mono ?_
  rintro en w1 ⟨rfl, rfl⟩
  go_wp2_with fail
  refine (floor_any x den low _ ⟨by omega, by omega⟩ hd0 (by omega) L.out).mono ?_
  rintro en w1 ⟨rfl, he⟩
  subst he
  go_wp2_with fail
  refine (noAmount_any (low + 1) b _ Hb.out).mono ?_
  rintro en w1 ⟨rfl, he⟩
  subst he
  cases b
  · have ht : told (low + 1) = (0, 8) := by unfold told; rw [if_neg (of_decide_eq_false Hb.out)]
    have HT := Lib.hid ht; clear ht
    go_wp2
    go_ret2
    exact ⟨by rw [Ht.out, HT.out]; rfl, br _⟩
  · have ht : told (low + 1) = (low + 1, 0) := by unfold told; rw [if_pos (of_decide_eq_true Hb.out)]
    have HT := Lib.hid ht; clear ht
    go_wp2
    go_ret2
    exact ⟨by rw [Ht.out, HT.out]; rfl, br _⟩
set_option maxHeartbeats 1000000 in
theorem rp21e (p num den x low bl ab : Int) (b : Bool) (w : World) (H : RowKit.Hid (isA p)) (hn0 : 0 ≤ num) (hn1 : num ≤ 100000) (hd0 : 1 ≤ den) (hd1 : den ≤ 100000) (hs : p < 0) (hx : p * num = x) (x0 : -110000000000000000 ≤ x) (x1 : x ≤ 110000000000000000) (L : RowKit.Hid (x / den = low)) (l0 : -110000000000000001 ≤ low) (l1 : low ≤ 110000000000000000) (m1 : low * den = x) (hb : decide (isA (low)) = b) (Ht : RowKit.Hid (part p num den 2 = told (low))) : Calls Try.prog 39 #[.int .i64 p, .int .i64 num, .int .i64 den, .int .i64 2] w (PartQ p num den 2 w) := by
  have s1 : IntKind.i64.wrap x = x := IntWalk.i64_in _ (by omega)
  have Hb := Lib.hid hb; clear hb
  go_enter Try.func39, Try.ntmps39
  go_wp2_with fail
  refine (noAmount_any p true _ (decide_eq_true H.out)).mono ?_
  rintro en w1 ⟨rfl, rfl⟩
  go_wp2_with fail
  refine (floor_any x den low _ ⟨by omega, by omega⟩ hd0 (by omega) L.out).mono ?_
  rintro en w1 ⟨rfl, he⟩
  subst he
  go_wp2_with fail
  refine (noAmount_any (low) b _ Hb.out).mono ?_
  rintro en w1 ⟨rfl, he⟩
  subst he
  cases b
  · have ht : told (low) = (0, 8) := by unfold told; rw [if_neg (of_decide_eq_false Hb.out)]
    have HT := Lib.hid ht; clear ht
    go_wp2
    go_ret2
    exact ⟨by rw [Ht.out, HT.out]; rfl, br _⟩
  · have ht : told (low) = (low, 0) := by unfold told; rw [if_pos (of_decide_eq_true Hb.out)]
    have HT := Lib.hid ht; clear ht
    go_wp2
    go_ret2
    exact ⟨by rw [Ht.out, HT.out]; rfl, br _⟩
set_option maxHeartbeats 1000000 in
theorem rp21n (p num den x low bl ab : Int) (b : Bool) (w : World) (H : RowKit.Hid (isA p)) (hn0 : 0 ≤ num) (hn1 : num ≤ 100000) (hd0 : 1 ≤ den) (hd1 : den ≤ 100000) (hs : p < 0) (hx : p * num = x) (x0 : -110000000000000000 ≤ x) (x1 : x ≤ 110000000000000000) (L : RowKit.Hid (x / den = low)) (l0 : -110000000000000001 ≤ low) (l1 : low ≤ 110000000000000000) (m1 : low * den = x - bl) (m2 : (low + 1) * den = x + ab) (b0 : 0 < bl) (b1 : 0 < ab) (b2 : bl ≤ 100000) (b3 : ab ≤ 100000) (hb : decide (isA (low)) = b) (Ht : RowKit.Hid (part p num den 2 = told (low))) : Calls Try.prog 39 #[.int .i64 p, .int .i64 num, .int .i64 den, .int .i64 2] w (PartQ p num den 2 w) := by
  have s1 : IntKind.i64.wrap x = x := IntWalk.i64_in _ (by omega)
  have s2 : IntKind.i64.wrap (x - bl) = x - bl := IntWalk.i64_in _ (by omega)
  have ne : (x - bl != x) = true := by simp; omega
  have d1 : x - (x - bl) = bl := by omega
  have d2 : x + ab - x = ab := by omega
  have Hb := Lib.hid hb; clear hb
  go_enter Try.func39, Try.ntmps39
  go_wp2_with fail
  refine (noAmount_any p true _ (decide_eq_true H.out)).mono ?_
  rintro en w1 ⟨rfl, rfl⟩
  go_wp2_with fail
  refine (floor_any x den low _ ⟨by omega, by omega⟩ hd0 (by omega) L.out).mono ?_
  rintro en w1 ⟨rfl, he⟩
  subst he
  go_wp2_with fail
  refine (noAmount_any (low) b _ Hb.out).mono ?_
  rintro en w1 ⟨rfl, he⟩
  subst he
  cases b
  · have ht : told (low) = (0, 8) := by unfold told; rw [if_neg (of_decide_eq_false Hb.out)]
    have HT := Lib.hid ht; clear ht
    go_wp2
    go_ret2
    exact ⟨by rw [Ht.out, HT.out]; rfl, br _⟩
  · have ht : told (low) = (low, 0) := by unfold told; rw [if_pos (of_decide_eq_true Hb.out)]
    have HT := Lib.hid ht; clear ht
    go_wp2
    go_ret2
    exact ⟨by rw [Ht.out, HT.out]; rfl, br _⟩
set_option maxHeartbeats 1000000 in
theorem rp30e (p num den x low bl ab : Int) (b : Bool) (w : World) (H : RowKit.Hid (isA p)) (hn0 : 0 ≤ num) (hn1 : num ≤ 100000) (hd0 : 1 ≤ den) (hd1 : den ≤ 100000) (hs : 0 ≤ p) (hx : p * num = x) (x0 : -110000000000000000 ≤ x) (x1 : x ≤ 110000000000000000) (L : RowKit.Hid (x / den = low)) (l0 : -110000000000000001 ≤ low) (l1 : low ≤ 110000000000000000) (m1 : low * den = x) (hb : decide (isA (low)) = b) (Ht : RowKit.Hid (part p num den 3 = told (low))) : Calls Try.prog 39 #[.int .i64 p, .int .i64 num, .int .i64 den, .int .i64 3] w (PartQ p num den 3 w) := by
  have s1 : IntKind.i64.wrap x = x := IntWalk.i64_in _ (by omega)
  have Hb := Lib.hid hb; clear hb
  go_enter Try.func39, Try.ntmps39
  go_wp2_with fail
  refine (noAmount_any p true _ (decide_eq_true H.out)).mono ?_
  rintro en w1 ⟨rfl, rfl⟩
  go_wp2_with fail
  refine (floor_any x den low _ ⟨by omega, by omega⟩ hd0 (by omega) L.out).mono ?_
  rintro en w1 ⟨rfl, he⟩
  subst he
  go_wp2_with fail
  refine (noAmount_any (low) b _ Hb.out).mono ?_
  rintro en w1 ⟨rfl, he⟩
  subst he
  cases b
  · have ht : told (low) = (0, 8) := by unfold told; rw [if_neg (of_decide_eq_false Hb.out)]
    have HT := Lib.hid ht; clear ht
    go_wp2
    go_ret2
    exact ⟨by rw [Ht.out, HT.out]; rfl, br _⟩
  · have ht : told (low) = (low, 0) := by unfold told; rw [if_pos (of_decide_eq_true Hb.out)]
    have HT := Lib.hid ht; clear ht
    go_wp2
    go_ret2
    exact ⟨by rw [Ht.out, HT.out]; rfl, br _⟩
set_option maxHeartbeats 1000000 in
theorem rp30l (p num den x low bl ab : Int) (b : Bool) (w : World) (H : RowKit.Hid (isA p)) (hn0 : 0 ≤ num) (hn1 : num ≤ 100000) (hd0 : 1 ≤ den) (hd1 : den ≤ 100000) (hs : 0 ≤ p) (hx : p * num = x) (x0 : -110000000000000000 ≤ x) (x1 : x ≤ 110000000000000000) (L : RowKit.Hid (x / den = low)) (l0 : -110000000000000001 ≤ low) (l1 : low ≤ 110000000000000000) (m1 : low * den = x - bl) (m2 : (low + 1) * den = x + ab) (b0 : 0 < bl) (b1 : 0 < ab) (b2 : bl ≤ 100000) (b3 : ab ≤ 100000) (c : bl < ab) (hb : decide (isA (low)) = b) (Ht : RowKit.Hid (part p num den 3 = told (low))) : Calls Try.prog 39 #[.int .i64 p, .int .i64 num, .int .i64 den, .int .i64 3] w (PartQ p num den 3 w) := by
  have s1 : IntKind.i64.wrap x = x := IntWalk.i64_in _ (by omega)
  have s2 : IntKind.i64.wrap (x - bl) = x - bl := IntWalk.i64_in _ (by omega)
  have ne : (x - bl != x) = true := by simp; omega
  have d1 : x - (x - bl) = bl := by omega
  have d2 : x + ab - x = ab := by omega
  have ne2 : (bl == ab) = false := beq_eq_false_iff_ne.2 (by omega)
  have Hb := Lib.hid hb; clear hb
  go_enter Try.func39, Try.ntmps39
  go_wp2_with fail
  refine (noAmount_any p true _ (decide_eq_true H.out)).mono ?_
  rintro en w1 ⟨rfl, rfl⟩
  go_wp2_with fail
  refine (floor_any x den low _ ⟨by omega, by omega⟩ hd0 (by omega) L.out).mono ?_
  rintro en w1 ⟨rfl, he⟩
  subst he
  go_wp2_with fail
  refine (noAmount_any (low) b _ Hb.out).mono ?_
  rintro en w1 ⟨rfl, he⟩
  subst he
  cases b
  · have ht : told (low) = (0, 8) := by unfold told; rw [if_neg (of_decide_eq_false Hb.out)]
    have HT := Lib.hid ht; clear ht
    go_wp2
    go_ret2
    exact ⟨by rw [Ht.out, HT.out]; rfl, br _⟩
  · have ht : told (low) = (low, 0) := by unfold told; rw [if_pos (of_decide_eq_true Hb.out)]
    have HT := Lib.hid ht; clear ht
    go_wp2
    go_ret2
    exact ⟨by rw [Ht.out, HT.out]; rfl, br _⟩
set_option maxHeartbeats 1000000 in
theorem rp30g (p num den x low bl ab : Int) (b : Bool) (w : World) (H : RowKit.Hid (isA p)) (hn0 : 0 ≤ num) (hn1 : num ≤ 100000) (hd0 : 1 ≤ den) (hd1 : den ≤ 100000) (hs : 0 ≤ p) (hx : p * num = x) (x0 : -110000000000000000 ≤ x) (x1 : x ≤ 110000000000000000) (L : RowKit.Hid (x / den = low)) (l0 : -110000000000000001 ≤ low) (l1 : low ≤ 110000000000000000) (m1 : low * den = x - bl) (m2 : (low + 1) * den = x + ab) (b0 : 0 < bl) (b1 : 0 < ab) (b2 : bl ≤ 100000) (b3 : ab ≤ 100000) (c : ab < bl) (hb : decide (isA (low + 1)) = b) (Ht : RowKit.Hid (part p num den 3 = told (low + 1))) : Calls Try.prog 39 #[.int .i64 p, .int .i64 num, .int .i64 den, .int .i64 3] w (PartQ p num den 3 w) := by
  have s1 : IntKind.i64.wrap x = x := IntWalk.i64_in _ (by omega)
  have s2 : IntKind.i64.wrap (x - bl) = x - bl := IntWalk.i64_in _ (by omega)
  have ne : (x - bl != x) = true := by simp; omega
  have d1 : x - (x - bl) = bl := by omega
  have d2 : x + ab - x = ab := by omega
  have ne2 : (bl == ab) = false := beq_eq_false_iff_ne.2 (by omega)
  have Hb := Lib.hid hb; clear hb
  go_enter Try.func39, Try.ntmps39
  go_wp2_with fail
  refine (noAmount_any p true _ (decide_eq_true H.out)).mono ?_
  rintro en w1 ⟨rfl, rfl⟩
  go_wp2_with fail
  refine (floor_any x den low _ ⟨by omega, by omega⟩ hd0 (by omega) L.out).mono ?_
  rintro en w1 ⟨rfl, he⟩
  subst he
  go_wp2_with fail
  refine (noAmount_any (low + 1) b _ Hb.out).mono ?_
  rintro en w1 ⟨rfl, he⟩
  subst he
  cases b
  · have ht : told (low + 1) = (0, 8) := by unfold told; rw [if_neg (of_decide_eq_false Hb.out)]
    have HT := Lib.hid ht; clear ht
    go_wp2
    go_ret2
    exact ⟨by rw [Ht.out, HT.out]; rfl, br _⟩
  · have ht : told (low + 1) = (low + 1, 0) := by unfold told; rw [if_pos (of_decide_eq_true Hb.out)]
    have HT := Lib.hid ht; clear ht
    go_wp2
    go_ret2
    exact ⟨by rw [Ht.out, HT.out]; rfl, br _⟩
set_option maxHeartbeats 1000000 in
theorem rp30q (p num den x low bl ab : Int) (b : Bool) (w : World) (H : RowKit.Hid (isA p)) (hn0 : 0 ≤ num) (hn1 : num ≤ 100000) (hd0 : 1 ≤ den) (hd1 : den ≤ 100000) (hs : 0 ≤ p) (hx : p * num = x) (x0 : -110000000000000000 ≤ x) (x1 : x ≤ 110000000000000000) (L : RowKit.Hid (x / den = low)) (l0 : -110000000000000001 ≤ low) (l1 : low ≤ 110000000000000000) (m1 : low * den = x - bl) (m2 : (low + 1) * den = x + ab) (b0 : 0 < bl) (b1 : 0 < ab) (b2 : bl ≤ 100000) (b3 : ab ≤ 100000) (c : bl = ab) (hb : decide (isA (low + 1)) = b) (Ht : RowKit.Hid (part p num den 3 = told (low + 1))) : Calls Try.prog 39 #[.int .i64 p, .int .i64 num, .int .i64 den, .int .i64 3] w (PartQ p num den 3 w) := by
  subst c
  have s1 : IntKind.i64.wrap x = x := IntWalk.i64_in _ (by omega)
  have s2 : IntKind.i64.wrap (x - bl) = x - bl := IntWalk.i64_in _ (by omega)
  have ne : (x - bl != x) = true := by simp; omega
  have d1 : x - (x - bl) = bl := by omega
  have d2 : x + bl - x = bl := by omega
  have Hb := Lib.hid hb; clear hb
  go_enter Try.func39, Try.ntmps39
  go_wp2_with fail
  refine (noAmount_any p true _ (decide_eq_true H.out)).mono ?_
  rintro en w1 ⟨rfl, rfl⟩
  go_wp2_with fail
  refine (floor_any x den low _ ⟨by omega, by omega⟩ hd0 (by omega) L.out).mono ?_
  rintro en w1 ⟨rfl, he⟩
  subst he
  go_wp2_with fail
  refine (noAmount_any (low + 1) b _ Hb.out).mono ?_
  rintro en w1 ⟨rfl, he⟩
  subst he
  cases b
  · have ht : told (low + 1) = (0, 8) := by unfold told; rw [if_neg (of_decide_eq_false Hb.out)]
    have HT := Lib.hid ht; clear ht
    go_wp2
    go_ret2
    exact ⟨by rw [Ht.out, HT.out]; rfl, br _⟩
  · have ht : told (low + 1) = (low + 1, 0) := by unfold told; rw [if_pos (of_decide_eq_true Hb.out)]
    have HT := Lib.hid ht; clear ht
    go_wp2
    go_ret2
    exact ⟨by rw [Ht.out, HT.out]; rfl, br _⟩
set_option maxHeartbeats 1000000 in
theorem rp31e (p num den x low bl ab : Int) (b : Bool) (w : World) (H : RowKit.Hid (isA p)) (hn0 : 0 ≤ num) (hn1 : num ≤ 100000) (hd0 : 1 ≤ den) (hd1 : den ≤ 100000) (hs : p < 0) (hx : p * num = x) (x0 : -110000000000000000 ≤ x) (x1 : x ≤ 110000000000000000) (L : RowKit.Hid (x / den = low)) (l0 : -110000000000000001 ≤ low) (l1 : low ≤ 110000000000000000) (m1 : low * den = x) (hb : decide (isA (low)) = b) (Ht : RowKit.Hid (part p num den 3 = told (low))) : Calls Try.prog 39 #[.int .i64 p, .int .i64 num, .int .i64 den, .int .i64 3] w (PartQ p num den 3 w) := by
  have s1 : IntKind.i64.wrap x = x := IntWalk.i64_in _ (by omega)
  have Hb := Lib.hid hb; clear hb
  go_enter Try.func39, Try.ntmps39
  go_wp2_with fail
  refine (noAmount_any p true _ (decide_eq_true H.out)).mono ?_
  rintro en w1 ⟨rfl, rfl⟩
  go_wp2_with fail
  refine (floor_any x den low _ ⟨by omega, by omega⟩ hd0 (by omega) L.out).mono ?_
  rintro en w1 ⟨rfl, he⟩
  subst he
  go_wp2_with fail
  refine (noAmount_any (low) b _ Hb.out).mono ?_
  rintro en w1 ⟨rfl, he⟩
  subst he
  cases b
  · have ht : told (low) = (0, 8) := by unfold told; rw [if_neg (of_decide_eq_false Hb.out)]
    have HT := Lib.hid ht; clear ht
    go_wp2
    go_ret2
    exact ⟨by rw [Ht.out, HT.out]; rfl, br _⟩
  · have ht : told (low) = (low, 0) := by unfold told; rw [if_pos (of_decide_eq_true Hb.out)]
    have HT := Lib.hid ht; clear ht
    go_wp2
    go_ret2
    exact ⟨by rw [Ht.out, HT.out]; rfl, br _⟩
set_option maxHeartbeats 1000000 in
theorem rp31l (p num den x low bl ab : Int) (b : Bool) (w : World) (H : RowKit.Hid (isA p)) (hn0 : 0 ≤ num) (hn1 : num ≤ 100000) (hd0 : 1 ≤ den) (hd1 : den ≤ 100000) (hs : p < 0) (hx : p * num = x) (x0 : -110000000000000000 ≤ x) (x1 : x ≤ 110000000000000000) (L : RowKit.Hid (x / den = low)) (l0 : -110000000000000001 ≤ low) (l1 : low ≤ 110000000000000000) (m1 : low * den = x - bl) (m2 : (low + 1) * den = x + ab) (b0 : 0 < bl) (b1 : 0 < ab) (b2 : bl ≤ 100000) (b3 : ab ≤ 100000) (c : bl < ab) (hb : decide (isA (low)) = b) (Ht : RowKit.Hid (part p num den 3 = told (low))) : Calls Try.prog 39 #[.int .i64 p, .int .i64 num, .int .i64 den, .int .i64 3] w (PartQ p num den 3 w) := by
  have s1 : IntKind.i64.wrap x = x := IntWalk.i64_in _ (by omega)
  have s2 : IntKind.i64.wrap (x - bl) = x - bl := IntWalk.i64_in _ (by omega)
  have ne : (x - bl != x) = true := by simp; omega
  have d1 : x - (x - bl) = bl := by omega
  have d2 : x + ab - x = ab := by omega
  have ne2 : (bl == ab) = false := beq_eq_false_iff_ne.2 (by omega)
  have Hb := Lib.hid hb; clear hb
  go_enter Try.func39, Try.ntmps39
  go_wp2_with fail
  refine (noAmount_any p true _ (decide_eq_true H.out)).mono ?_
  rintro en w1 ⟨rfl, rfl⟩
  go_wp2_with fail
  refine (floor_any x den low _ ⟨by omega, by omega⟩ hd0 (by omega) L.out).mono ?_
  rintro en w1 ⟨rfl, he⟩
  subst he
  go_wp2_with fail
  refine (noAmount_any (low) b _ Hb.out).mono ?_
  rintro en w1 ⟨rfl, he⟩
  subst he
  cases b
  · have ht : told (low) = (0, 8) := by unfold told; rw [if_neg (of_decide_eq_false Hb.out)]
    have HT := Lib.hid ht; clear ht
    go_wp2
    go_ret2
    exact ⟨by rw [Ht.out, HT.out]; rfl, br _⟩
  · have ht : told (low) = (low, 0) := by unfold told; rw [if_pos (of_decide_eq_true Hb.out)]
    have HT := Lib.hid ht; clear ht
    go_wp2
    go_ret2
    exact ⟨by rw [Ht.out, HT.out]; rfl, br _⟩
set_option maxHeartbeats 1000000 in
theorem rp31g (p num den x low bl ab : Int) (b : Bool) (w : World) (H : RowKit.Hid (isA p)) (hn0 : 0 ≤ num) (hn1 : num ≤ 100000) (hd0 : 1 ≤ den) (hd1 : den ≤ 100000) (hs : p < 0) (hx : p * num = x) (x0 : -110000000000000000 ≤ x) (x1 : x ≤ 110000000000000000) (L : RowKit.Hid (x / den = low)) (l0 : -110000000000000001 ≤ low) (l1 : low ≤ 110000000000000000) (m1 : low * den = x - bl) (m2 : (low + 1) * den = x + ab) (b0 : 0 < bl) (b1 : 0 < ab) (b2 : bl ≤ 100000) (b3 : ab ≤ 100000) (c : ab < bl) (hb : decide (isA (low + 1)) = b) (Ht : RowKit.Hid (part p num den 3 = told (low + 1))) : Calls Try.prog 39 #[.int .i64 p, .int .i64 num, .int .i64 den, .int .i64 3] w (PartQ p num den 3 w) := by
  have s1 : IntKind.i64.wrap x = x := IntWalk.i64_in _ (by omega)
  have s2 : IntKind.i64.wrap (x - bl) = x - bl := IntWalk.i64_in _ (by omega)
  have ne : (x - bl != x) = true := by simp; omega
  have d1 : x - (x - bl) = bl := by omega
  have d2 : x + ab - x = ab := by omega
  have ne2 : (bl == ab) = false := beq_eq_false_iff_ne.2 (by omega)
  have Hb := Lib.hid hb; clear hb
  go_enter Try.func39, Try.ntmps39
  go_wp2_with fail
  refine (noAmount_any p true _ (decide_eq_true H.out)).mono ?_
  rintro en w1 ⟨rfl, rfl⟩
  go_wp2_with fail
  refine (floor_any x den low _ ⟨by omega, by omega⟩ hd0 (by omega) L.out).mono ?_
  rintro en w1 ⟨rfl, he⟩
  subst he
  go_wp2_with fail
  refine (noAmount_any (low + 1) b _ Hb.out).mono ?_
  rintro en w1 ⟨rfl, he⟩
  subst he
  cases b
  · have ht : told (low + 1) = (0, 8) := by unfold told; rw [if_neg (of_decide_eq_false Hb.out)]
    have HT := Lib.hid ht; clear ht
    go_wp2
    go_ret2
    exact ⟨by rw [Ht.out, HT.out]; rfl, br _⟩
  · have ht : told (low + 1) = (low + 1, 0) := by unfold told; rw [if_pos (of_decide_eq_true Hb.out)]
    have HT := Lib.hid ht; clear ht
    go_wp2
    go_ret2
    exact ⟨by rw [Ht.out, HT.out]; rfl, br _⟩
set_option maxHeartbeats 1000000 in
theorem rp31q (p num den x low bl ab : Int) (b : Bool) (w : World) (H : RowKit.Hid (isA p)) (hn0 : 0 ≤ num) (hn1 : num ≤ 100000) (hd0 : 1 ≤ den) (hd1 : den ≤ 100000) (hs : p < 0) (hx : p * num = x) (x0 : -110000000000000000 ≤ x) (x1 : x ≤ 110000000000000000) (L : RowKit.Hid (x / den = low)) (l0 : -110000000000000001 ≤ low) (l1 : low ≤ 110000000000000000) (m1 : low * den = x - bl) (m2 : (low + 1) * den = x + ab) (b0 : 0 < bl) (b1 : 0 < ab) (b2 : bl ≤ 100000) (b3 : ab ≤ 100000) (c : bl = ab) (hb : decide (isA (low)) = b) (Ht : RowKit.Hid (part p num den 3 = told (low))) : Calls Try.prog 39 #[.int .i64 p, .int .i64 num, .int .i64 den, .int .i64 3] w (PartQ p num den 3 w) := by
  subst c
  have s1 : IntKind.i64.wrap x = x := IntWalk.i64_in _ (by omega)
  have s2 : IntKind.i64.wrap (x - bl) = x - bl := IntWalk.i64_in _ (by omega)
  have ne : (x - bl != x) = true := by simp; omega
  have d1 : x - (x - bl) = bl := by omega
  have d2 : x + bl - x = bl := by omega
  have Hb := Lib.hid hb; clear hb
  go_enter Try.func39, Try.ntmps39
  go_wp2_with fail
  refine (noAmount_any p true _ (decide_eq_true H.out)).mono ?_
  rintro en w1 ⟨rfl, rfl⟩
  go_wp2_with fail
  refine (floor_any x den low _ ⟨by omega, by omega⟩ hd0 (by omega) L.out).mono ?_
  rintro en w1 ⟨rfl, he⟩
  subst he
  go_wp2_with fail
  refine (noAmount_any (low) b _ Hb.out).mono ?_
  rintro en w1 ⟨rfl, he⟩
  subst he
  cases b
  · have ht : told (low) = (0, 8) := by unfold told; rw [if_neg (of_decide_eq_false Hb.out)]
    have HT := Lib.hid ht; clear ht
    go_wp2
    go_ret2
    exact ⟨by rw [Ht.out, HT.out]; rfl, br _⟩
  · have ht : told (low) = (low, 0) := by unfold told; rw [if_pos (of_decide_eq_true Hb.out)]
    have HT := Lib.hid ht; clear ht
    go_wp2
    go_ret2
    exact ⟨by rw [Ht.out, HT.out]; rfl, br _⟩
set_option maxHeartbeats 1000000 in
theorem rp40e0 (p num den x low bl ab : Int) (b : Bool) (w : World) (H : RowKit.Hid (isA p)) (hn0 : 0 ≤ num) (hn1 : num ≤ 100000) (hd0 : 1 ≤ den) (hd1 : den ≤ 100000) (hs : 0 ≤ p) (hx : p * num = x) (x0 : -110000000000000000 ≤ x) (x1 : x ≤ 110000000000000000) (L : RowKit.Hid (x / den = low)) (l0 : -110000000000000001 ≤ low) (l1 : low ≤ 110000000000000000) (m1 : low * den = x) (pr : (low.tmod 2 != 0) = false) (hb : decide (isA (low)) = b) (Ht : RowKit.Hid (part p num den 4 = told (low))) : Calls Try.prog 39 #[.int .i64 p, .int .i64 num, .int .i64 den, .int .i64 4] w (PartQ p num den 4 w) := by
  have s1 : IntKind.i64.wrap x = x := IntWalk.i64_in _ (by omega)
  have Hb := Lib.hid hb; clear hb
  go_enter Try.func39, Try.ntmps39
  go_wp2_with fail
  refine (noAmount_any p true _ (decide_eq_true H.out)).mono ?_
  rintro en w1 ⟨rfl, rfl⟩
  go_wp2_with fail
  refine (floor_any x den low _ ⟨by omega, by omega⟩ hd0 (by omega) L.out).mono ?_
  rintro en w1 ⟨rfl, he⟩
  subst he
  go_wp2_with fail
  refine (noAmount_any (low) b _ Hb.out).mono ?_
  rintro en w1 ⟨rfl, he⟩
  subst he
  cases b
  · have ht : told (low) = (0, 8) := by unfold told; rw [if_neg (of_decide_eq_false Hb.out)]
    have HT := Lib.hid ht; clear ht
    go_wp2
    go_ret2
    exact ⟨by rw [Ht.out, HT.out]; rfl, br _⟩
  · have ht : told (low) = (low, 0) := by unfold told; rw [if_pos (of_decide_eq_true Hb.out)]
    have HT := Lib.hid ht; clear ht
    go_wp2
    go_ret2
    exact ⟨by rw [Ht.out, HT.out]; rfl, br _⟩
set_option maxHeartbeats 1000000 in
theorem rp40e1 (p num den x low bl ab : Int) (b : Bool) (w : World) (H : RowKit.Hid (isA p)) (hn0 : 0 ≤ num) (hn1 : num ≤ 100000) (hd0 : 1 ≤ den) (hd1 : den ≤ 100000) (hs : 0 ≤ p) (hx : p * num = x) (x0 : -110000000000000000 ≤ x) (x1 : x ≤ 110000000000000000) (L : RowKit.Hid (x / den = low)) (l0 : -110000000000000001 ≤ low) (l1 : low ≤ 110000000000000000) (m1 : low * den = x) (pr : (low.tmod 2 != 0) = true) (hb : decide (isA (low)) = b) (Ht : RowKit.Hid (part p num den 4 = told (low))) : Calls Try.prog 39 #[.int .i64 p, .int .i64 num, .int .i64 den, .int .i64 4] w (PartQ p num den 4 w) := by
  have s1 : IntKind.i64.wrap x = x := IntWalk.i64_in _ (by omega)
  have Hb := Lib.hid hb; clear hb
  go_enter Try.func39, Try.ntmps39
  go_wp2_with fail
  refine (noAmount_any p true _ (decide_eq_true H.out)).mono ?_
  rintro en w1 ⟨rfl, rfl⟩
  go_wp2_with fail
  refine (floor_any x den low _ ⟨by omega, by omega⟩ hd0 (by omega) L.out).mono ?_
  rintro en w1 ⟨rfl, he⟩
  subst he
  go_wp2_with fail
  refine (noAmount_any (low) b _ Hb.out).mono ?_
  rintro en w1 ⟨rfl, he⟩
  subst he
  cases b
  · have ht : told (low) = (0, 8) := by unfold told; rw [if_neg (of_decide_eq_false Hb.out)]
    have HT := Lib.hid ht; clear ht
    go_wp2
    go_ret2
    exact ⟨by rw [Ht.out, HT.out]; rfl, br _⟩
  · have ht : told (low) = (low, 0) := by unfold told; rw [if_pos (of_decide_eq_true Hb.out)]
    have HT := Lib.hid ht; clear ht
    go_wp2
    go_ret2
    exact ⟨by rw [Ht.out, HT.out]; rfl, br _⟩
set_option maxHeartbeats 1000000 in
theorem rp40l (p num den x low bl ab : Int) (b : Bool) (w : World) (H : RowKit.Hid (isA p)) (hn0 : 0 ≤ num) (hn1 : num ≤ 100000) (hd0 : 1 ≤ den) (hd1 : den ≤ 100000) (hs : 0 ≤ p) (hx : p * num = x) (x0 : -110000000000000000 ≤ x) (x1 : x ≤ 110000000000000000) (L : RowKit.Hid (x / den = low)) (l0 : -110000000000000001 ≤ low) (l1 : low ≤ 110000000000000000) (m1 : low * den = x - bl) (m2 : (low + 1) * den = x + ab) (b0 : 0 < bl) (b1 : 0 < ab) (b2 : bl ≤ 100000) (b3 : ab ≤ 100000) (c : bl < ab) (hb : decide (isA (low)) = b) (Ht : RowKit.Hid (part p num den 4 = told (low))) : Calls Try.prog 39 #[.int .i64 p, .int .i64 num, .int .i64 den, .int .i64 4] w (PartQ p num den 4 w) := by
  have s1 : IntKind.i64.wrap x = x := IntWalk.i64_in _ (by omega)
  have s2 : IntKind.i64.wrap (x - bl) = x - bl := IntWalk.i64_in _ (by omega)
  have ne : (x - bl != x) = true := by simp; omega
  have d1 : x - (x - bl) = bl := by omega
  have d2 : x + ab - x = ab := by omega
  have ne2 : (bl == ab) = false := beq_eq_false_iff_ne.2 (by omega)
  have Hb := Lib.hid hb; clear hb
  go_enter Try.func39, Try.ntmps39
  go_wp2_with fail
  refine (noAmount_any p true _ (decide_eq_true H.out)).mono ?_
  rintro en w1 ⟨rfl, rfl⟩
  go_wp2_with fail
  refine (floor_any x den low _ ⟨by omega, by omega⟩ hd0 (by omega) L.out).mono ?_
  rintro en w1 ⟨rfl, he⟩
  subst he
  go_wp2_with fail
  refine (noAmount_any (low) b _ Hb.out).mono ?_
  rintro en w1 ⟨rfl, he⟩
  subst he
  cases b
  · have ht : told (low) = (0, 8) := by unfold told; rw [if_neg (of_decide_eq_false Hb.out)]
    have HT := Lib.hid ht; clear ht
    go_wp2
    go_ret2
    exact ⟨by rw [Ht.out, HT.out]; rfl, br _⟩
  · have ht : told (low) = (low, 0) := by unfold told; rw [if_pos (of_decide_eq_true Hb.out)]
    have HT := Lib.hid ht; clear ht
    go_wp2
    go_ret2
    exact ⟨by rw [Ht.out, HT.out]; rfl, br _⟩
set_option maxHeartbeats 1000000 in
theorem rp40g (p num den x low bl ab : Int) (b : Bool) (w : World) (H : RowKit.Hid (isA p)) (hn0 : 0 ≤ num) (hn1 : num ≤ 100000) (hd0 : 1 ≤ den) (hd1 : den ≤ 100000) (hs : 0 ≤ p) (hx : p * num = x) (x0 : -110000000000000000 ≤ x) (x1 : x ≤ 110000000000000000) (L : RowKit.Hid (x / den = low)) (l0 : -110000000000000001 ≤ low) (l1 : low ≤ 110000000000000000) (m1 : low * den = x - bl) (m2 : (low + 1) * den = x + ab) (b0 : 0 < bl) (b1 : 0 < ab) (b2 : bl ≤ 100000) (b3 : ab ≤ 100000) (c : ab < bl) (hb : decide (isA (low + 1)) = b) (Ht : RowKit.Hid (part p num den 4 = told (low + 1))) : Calls Try.prog 39 #[.int .i64 p, .int .i64 num, .int .i64 den, .int .i64 4] w (PartQ p num den 4 w) := by
  have s1 : IntKind.i64.wrap x = x := IntWalk.i64_in _ (by omega)
  have s2 : IntKind.i64.wrap (x - bl) = x - bl := IntWalk.i64_in _ (by omega)
  have ne : (x - bl != x) = true := by simp; omega
  have d1 : x - (x - bl) = bl := by omega
  have d2 : x + ab - x = ab := by omega
  have ne2 : (bl == ab) = false := beq_eq_false_iff_ne.2 (by omega)
  have Hb := Lib.hid hb; clear hb
  go_enter Try.func39, Try.ntmps39
  go_wp2_with fail
  refine (noAmount_any p true _ (decide_eq_true H.out)).mono ?_
  rintro en w1 ⟨rfl, rfl⟩
  go_wp2_with fail
  refine (floor_any x den low _ ⟨by omega, by omega⟩ hd0 (by omega) L.out).mono ?_
  rintro en w1 ⟨rfl, he⟩
  subst he
  go_wp2_with fail
  refine (noAmount_any (low + 1) b _ Hb.out).mono ?_
  rintro en w1 ⟨rfl, he⟩
  subst he
  cases b
  · have ht : told (low + 1) = (0, 8) := by unfold told; rw [if_neg (of_decide_eq_false Hb.out)]
    have HT := Lib.hid ht; clear ht
    go_wp2
    go_ret2
    exact ⟨by rw [Ht.out, HT.out]; rfl, br _⟩
  · have ht : told (low + 1) = (low + 1, 0) := by unfold told; rw [if_pos (of_decide_eq_true Hb.out)]
    have HT := Lib.hid ht; clear ht
    go_wp2
    go_ret2
    exact ⟨by rw [Ht.out, HT.out]; rfl, br _⟩
set_option maxHeartbeats 1000000 in
theorem rp40q0 (p num den x low bl ab : Int) (b : Bool) (w : World) (H : RowKit.Hid (isA p)) (hn0 : 0 ≤ num) (hn1 : num ≤ 100000) (hd0 : 1 ≤ den) (hd1 : den ≤ 100000) (hs : 0 ≤ p) (hx : p * num = x) (x0 : -110000000000000000 ≤ x) (x1 : x ≤ 110000000000000000) (L : RowKit.Hid (x / den = low)) (l0 : -110000000000000001 ≤ low) (l1 : low ≤ 110000000000000000) (m1 : low * den = x - bl) (m2 : (low + 1) * den = x + ab) (b0 : 0 < bl) (b1 : 0 < ab) (b2 : bl ≤ 100000) (b3 : ab ≤ 100000) (c : bl = ab) (pr : (low.tmod 2 != 0) = false) (hb : decide (isA (low)) = b) (Ht : RowKit.Hid (part p num den 4 = told (low))) : Calls Try.prog 39 #[.int .i64 p, .int .i64 num, .int .i64 den, .int .i64 4] w (PartQ p num den 4 w) := by
  subst c
  have s1 : IntKind.i64.wrap x = x := IntWalk.i64_in _ (by omega)
  have s2 : IntKind.i64.wrap (x - bl) = x - bl := IntWalk.i64_in _ (by omega)
  have ne : (x - bl != x) = true := by simp; omega
  have d1 : x - (x - bl) = bl := by omega
  have d2 : x + bl - x = bl := by omega
  have Hb := Lib.hid hb; clear hb
  go_enter Try.func39, Try.ntmps39
  go_wp2_with fail
  refine (noAmount_any p true _ (decide_eq_true H.out)).mono ?_
  rintro en w1 ⟨rfl, rfl⟩
  go_wp2_with fail
  refine (floor_any x den low _ ⟨by omega, by omega⟩ hd0 (by omega) L.out).mono ?_
  rintro en w1 ⟨rfl, he⟩
  subst he
  go_wp2_with fail
  refine (noAmount_any (low) b _ Hb.out).mono ?_
  rintro en w1 ⟨rfl, he⟩
  subst he
  cases b
  · have ht : told (low) = (0, 8) := by unfold told; rw [if_neg (of_decide_eq_false Hb.out)]
    have HT := Lib.hid ht; clear ht
    go_wp2
    go_ret2
    exact ⟨by rw [Ht.out, HT.out]; rfl, br _⟩
  · have ht : told (low) = (low, 0) := by unfold told; rw [if_pos (of_decide_eq_true Hb.out)]
    have HT := Lib.hid ht; clear ht
    go_wp2
    go_ret2
    exact ⟨by rw [Ht.out, HT.out]; rfl, br _⟩
set_option maxHeartbeats 1000000 in
theorem rp40q1 (p num den x low bl ab : Int) (b : Bool) (w : World) (H : RowKit.Hid (isA p)) (hn0 : 0 ≤ num) (hn1 : num ≤ 100000) (hd0 : 1 ≤ den) (hd1 : den ≤ 100000) (hs : 0 ≤ p) (hx : p * num = x) (x0 : -110000000000000000 ≤ x) (x1 : x ≤ 110000000000000000) (L : RowKit.Hid (x / den = low)) (l0 : -110000000000000001 ≤ low) (l1 : low ≤ 110000000000000000) (m1 : low * den = x - bl) (m2 : (low + 1) * den = x + ab) (b0 : 0 < bl) (b1 : 0 < ab) (b2 : bl ≤ 100000) (b3 : ab ≤ 100000) (c : bl = ab) (pr : (low.tmod 2 != 0) = true) (hb : decide (isA (low + 1)) = b) (Ht : RowKit.Hid (part p num den 4 = told (low + 1))) : Calls Try.prog 39 #[.int .i64 p, .int .i64 num, .int .i64 den, .int .i64 4] w (PartQ p num den 4 w) := by
  subst c
  have s1 : IntKind.i64.wrap x = x := IntWalk.i64_in _ (by omega)
  have s2 : IntKind.i64.wrap (x - bl) = x - bl := IntWalk.i64_in _ (by omega)
  have ne : (x - bl != x) = true := by simp; omega
  have d1 : x - (x - bl) = bl := by omega
  have d2 : x + bl - x = bl := by omega
  have Hb := Lib.hid hb; clear hb
  go_enter Try.func39, Try.ntmps39
  go_wp2_with fail
  refine (noAmount_any p true _ (decide_eq_true H.out)).mono ?_
  rintro en w1 ⟨rfl, rfl⟩
  go_wp2_with fail
  refine (floor_any x den low _ ⟨by omega, by omega⟩ hd0 (by omega) L.out).mono ?_
  rintro en w1 ⟨rfl, he⟩
  subst he
  go_wp2_with fail
  refine (noAmount_any (low + 1) b _ Hb.out).mono ?_
  rintro en w1 ⟨rfl, he⟩
  subst he
  cases b
  · have ht : told (low + 1) = (0, 8) := by unfold told; rw [if_neg (of_decide_eq_false Hb.out)]
    have HT := Lib.hid ht; clear ht
    go_wp2
    go_ret2
    exact ⟨by rw [Ht.out, HT.out]; rfl, br _⟩
  · have ht : told (low + 1) = (low + 1, 0) := by unfold told; rw [if_pos (of_decide_eq_true Hb.out)]
    have HT := Lib.hid ht; clear ht
    go_wp2
    go_ret2
    exact ⟨by rw [Ht.out, HT.out]; rfl, br _⟩
set_option maxHeartbeats 1000000 in
theorem rp41e0 (p num den x low bl ab : Int) (b : Bool) (w : World) (H : RowKit.Hid (isA p)) (hn0 : 0 ≤ num) (hn1 : num ≤ 100000) (hd0 : 1 ≤ den) (hd1 : den ≤ 100000) (hs : p < 0) (hx : p * num = x) (x0 : -110000000000000000 ≤ x) (x1 : x ≤ 110000000000000000) (L : RowKit.Hid (x / den = low)) (l0 : -110000000000000001 ≤ low) (l1 : low ≤ 110000000000000000) (m1 : low * den = x) (pr : (low.tmod 2 != 0) = false) (hb : decide (isA (low)) = b) (Ht : RowKit.Hid (part p num den 4 = told (low))) : Calls Try.prog 39 #[.int .i64 p, .int .i64 num, .int .i64 den, .int .i64 4] w (PartQ p num den 4 w) := by
  have s1 : IntKind.i64.wrap x = x := IntWalk.i64_in _ (by omega)
  have Hb := Lib.hid hb; clear hb
  go_enter Try.func39, Try.ntmps39
  go_wp2_with fail
  refine (noAmount_any p true _ (decide_eq_true H.out)).mono ?_
  rintro en w1 ⟨rfl, rfl⟩
  go_wp2_with fail
  refine (floor_any x den low _ ⟨by omega, by omega⟩ hd0 (by omega) L.out).mono ?_
  rintro en w1 ⟨rfl, he⟩
  subst he
  go_wp2_with fail
  refine (noAmount_any (low) b _ Hb.out).mono ?_
  rintro en w1 ⟨rfl, he⟩
  subst he
  cases b
  · have ht : told (low) = (0, 8) := by unfold told; rw [if_neg (of_decide_eq_false Hb.out)]
    have HT := Lib.hid ht; clear ht
    go_wp2
    go_ret2
    exact ⟨by rw [Ht.out, HT.out]; rfl, br _⟩
  · have ht : told (low) = (low, 0) := by unfold told; rw [if_pos (of_decide_eq_true Hb.out)]
    have HT := Lib.hid ht; clear ht
    go_wp2
    go_ret2
    exact ⟨by rw [Ht.out, HT.out]; rfl, br _⟩
set_option maxHeartbeats 1000000 in
theorem rp41e1 (p num den x low bl ab : Int) (b : Bool) (w : World) (H : RowKit.Hid (isA p)) (hn0 : 0 ≤ num) (hn1 : num ≤ 100000) (hd0 : 1 ≤ den) (hd1 : den ≤ 100000) (hs : p < 0) (hx : p * num = x) (x0 : -110000000000000000 ≤ x) (x1 : x ≤ 110000000000000000) (L : RowKit.Hid (x / den = low)) (l0 : -110000000000000001 ≤ low) (l1 : low ≤ 110000000000000000) (m1 : low * den = x) (pr : (low.tmod 2 != 0) = true) (hb : decide (isA (low)) = b) (Ht : RowKit.Hid (part p num den 4 = told (low))) : Calls Try.prog 39 #[.int .i64 p, .int .i64 num, .int .i64 den, .int .i64 4] w (PartQ p num den 4 w) := by
  have s1 : IntKind.i64.wrap x = x := IntWalk.i64_in _ (by omega)
  have Hb := Lib.hid hb; clear hb
  go_enter Try.func39, Try.ntmps39
  go_wp2_with fail
  refine (noAmount_any p true _ (decide_eq_true H.out)).mono ?_
  rintro en w1 ⟨rfl, rfl⟩
  go_wp2_with fail
  refine (floor_any x den low _ ⟨by omega, by omega⟩ hd0 (by omega) L.out).mono ?_
  rintro en w1 ⟨rfl, he⟩
  subst he
  go_wp2_with fail
  refine (noAmount_any (low) b _ Hb.out).mono ?_
  rintro en w1 ⟨rfl, he⟩
  subst he
  cases b
  · have ht : told (low) = (0, 8) := by unfold told; rw [if_neg (of_decide_eq_false Hb.out)]
    have HT := Lib.hid ht; clear ht
    go_wp2
    go_ret2
    exact ⟨by rw [Ht.out, HT.out]; rfl, br _⟩
  · have ht : told (low) = (low, 0) := by unfold told; rw [if_pos (of_decide_eq_true Hb.out)]
    have HT := Lib.hid ht; clear ht
    go_wp2
    go_ret2
    exact ⟨by rw [Ht.out, HT.out]; rfl, br _⟩
set_option maxHeartbeats 1000000 in
theorem rp41l (p num den x low bl ab : Int) (b : Bool) (w : World) (H : RowKit.Hid (isA p)) (hn0 : 0 ≤ num) (hn1 : num ≤ 100000) (hd0 : 1 ≤ den) (hd1 : den ≤ 100000) (hs : p < 0) (hx : p * num = x) (x0 : -110000000000000000 ≤ x) (x1 : x ≤ 110000000000000000) (L : RowKit.Hid (x / den = low)) (l0 : -110000000000000001 ≤ low) (l1 : low ≤ 110000000000000000) (m1 : low * den = x - bl) (m2 : (low + 1) * den = x + ab) (b0 : 0 < bl) (b1 : 0 < ab) (b2 : bl ≤ 100000) (b3 : ab ≤ 100000) (c : bl < ab) (hb : decide (isA (low)) = b) (Ht : RowKit.Hid (part p num den 4 = told (low))) : Calls Try.prog 39 #[.int .i64 p, .int .i64 num, .int .i64 den, .int .i64 4] w (PartQ p num den 4 w) := by
  have s1 : IntKind.i64.wrap x = x := IntWalk.i64_in _ (by omega)
  have s2 : IntKind.i64.wrap (x - bl) = x - bl := IntWalk.i64_in _ (by omega)
  have ne : (x - bl != x) = true := by simp; omega
  have d1 : x - (x - bl) = bl := by omega
  have d2 : x + ab - x = ab := by omega
  have ne2 : (bl == ab) = false := beq_eq_false_iff_ne.2 (by omega)
  have Hb := Lib.hid hb; clear hb
  go_enter Try.func39, Try.ntmps39
  go_wp2_with fail
  refine (noAmount_any p true _ (decide_eq_true H.out)).mono ?_
  rintro en w1 ⟨rfl, rfl⟩
  go_wp2_with fail
  refine (floor_any x den low _ ⟨by omega, by omega⟩ hd0 (by omega) L.out).mono ?_
  rintro en w1 ⟨rfl, he⟩
  subst he
  go_wp2_with fail
  refine (noAmount_any (low) b _ Hb.out).mono ?_
  rintro en w1 ⟨rfl, he⟩
  subst he
  cases b
  · have ht : told (low) = (0, 8) := by unfold told; rw [if_neg (of_decide_eq_false Hb.out)]
    have HT := Lib.hid ht; clear ht
    go_wp2
    go_ret2
    exact ⟨by rw [Ht.out, HT.out]; rfl, br _⟩
  · have ht : told (low) = (low, 0) := by unfold told; rw [if_pos (of_decide_eq_true Hb.out)]
    have HT := Lib.hid ht; clear ht
    go_wp2
    go_ret2
    exact ⟨by rw [Ht.out, HT.out]; rfl, br _⟩
set_option maxHeartbeats 1000000 in
theorem rp41g (p num den x low bl ab : Int) (b : Bool) (w : World) (H : RowKit.Hid (isA p)) (hn0 : 0 ≤ num) (hn1 : num ≤ 100000) (hd0 : 1 ≤ den) (hd1 : den ≤ 100000) (hs : p < 0) (hx : p * num = x) (x0 : -110000000000000000 ≤ x) (x1 : x ≤ 110000000000000000) (L : RowKit.Hid (x / den = low)) (l0 : -110000000000000001 ≤ low) (l1 : low ≤ 110000000000000000) (m1 : low * den = x - bl) (m2 : (low + 1) * den = x + ab) (b0 : 0 < bl) (b1 : 0 < ab) (b2 : bl ≤ 100000) (b3 : ab ≤ 100000) (c : ab < bl) (hb : decide (isA (low + 1)) = b) (Ht : RowKit.Hid (part p num den 4 = told (low + 1))) : Calls Try.prog 39 #[.int .i64 p, .int .i64 num, .int .i64 den, .int .i64 4] w (PartQ p num den 4 w) := by
  have s1 : IntKind.i64.wrap x = x := IntWalk.i64_in _ (by omega)
  have s2 : IntKind.i64.wrap (x - bl) = x - bl := IntWalk.i64_in _ (by omega)
  have ne : (x - bl != x) = true := by simp; omega
  have d1 : x - (x - bl) = bl := by omega
  have d2 : x + ab - x = ab := by omega
  have ne2 : (bl == ab) = false := beq_eq_false_iff_ne.2 (by omega)
  have Hb := Lib.hid hb; clear hb
  go_enter Try.func39, Try.ntmps39
  go_wp2_with fail
  refine (noAmount_any p true _ (decide_eq_true H.out)).mono ?_
  rintro en w1 ⟨rfl, rfl⟩
  go_wp2_with fail
  refine (floor_any x den low _ ⟨by omega, by omega⟩ hd0 (by omega) L.out).mono ?_
  rintro en w1 ⟨rfl, he⟩
  subst he
  go_wp2_with fail
  refine (noAmount_any (low + 1) b _ Hb.out).mono ?_
  rintro en w1 ⟨rfl, he⟩
  subst he
  cases b
  · have ht : told (low + 1) = (0, 8) := by unfold told; rw [if_neg (of_decide_eq_false Hb.out)]
    have HT := Lib.hid ht; clear ht
    go_wp2
    go_ret2
    exact ⟨by rw [Ht.out, HT.out]; rfl, br _⟩
  · have ht : told (low + 1) = (low + 1, 0) := by unfold told; rw [if_pos (of_decide_eq_true Hb.out)]
    have HT := Lib.hid ht; clear ht
    go_wp2
    go_ret2
    exact ⟨by rw [Ht.out, HT.out]; rfl, br _⟩
set_option maxHeartbeats 1000000 in
theorem rp41q0 (p num den x low bl ab : Int) (b : Bool) (w : World) (H : RowKit.Hid (isA p)) (hn0 : 0 ≤ num) (hn1 : num ≤ 100000) (hd0 : 1 ≤ den) (hd1 : den ≤ 100000) (hs : p < 0) (hx : p * num = x) (x0 : -110000000000000000 ≤ x) (x1 : x ≤ 110000000000000000) (L : RowKit.Hid (x / den = low)) (l0 : -110000000000000001 ≤ low) (l1 : low ≤ 110000000000000000) (m1 : low * den = x - bl) (m2 : (low + 1) * den = x + ab) (b0 : 0 < bl) (b1 : 0 < ab) (b2 : bl ≤ 100000) (b3 : ab ≤ 100000) (c : bl = ab) (pr : (low.tmod 2 != 0) = false) (hb : decide (isA (low)) = b) (Ht : RowKit.Hid (part p num den 4 = told (low))) : Calls Try.prog 39 #[.int .i64 p, .int .i64 num, .int .i64 den, .int .i64 4] w (PartQ p num den 4 w) := by
  subst c
  have s1 : IntKind.i64.wrap x = x := IntWalk.i64_in _ (by omega)
  have s2 : IntKind.i64.wrap (x - bl) = x - bl := IntWalk.i64_in _ (by omega)
  have ne : (x - bl != x) = true := by simp; omega
  have d1 : x - (x - bl) = bl := by omega
  have d2 : x + bl - x = bl := by omega
  have Hb := Lib.hid hb; clear hb
  go_enter Try.func39, Try.ntmps39
  go_wp2_with fail
  refine (noAmount_any p true _ (decide_eq_true H.out)).mono ?_
  rintro en w1 ⟨rfl, rfl⟩
  go_wp2_with fail
  refine (floor_any x den low _ ⟨by omega, by omega⟩ hd0 (by omega) L.out).mono ?_
  rintro en w1 ⟨rfl, he⟩
  subst he
  go_wp2_with fail
  refine (noAmount_any (low) b _ Hb.out).mono ?_
  rintro en w1 ⟨rfl, he⟩
  subst he
  cases b
  · have ht : told (low) = (0, 8) := by unfold told; rw [if_neg (of_decide_eq_false Hb.out)]
    have HT := Lib.hid ht; clear ht
    go_wp2
    go_ret2
    exact ⟨by rw [Ht.out, HT.out]; rfl, br _⟩
  · have ht : told (low) = (low, 0) := by unfold told; rw [if_pos (of_decide_eq_true Hb.out)]
    have HT := Lib.hid ht; clear ht
    go_wp2
    go_ret2
    exact ⟨by rw [Ht.out, HT.out]; rfl, br _⟩
set_option maxHeartbeats 1000000 in
theorem rp41q1 (p num den x low bl ab : Int) (b : Bool) (w : World) (H : RowKit.Hid (isA p)) (hn0 : 0 ≤ num) (hn1 : num ≤ 100000) (hd0 : 1 ≤ den) (hd1 : den ≤ 100000) (hs : p < 0) (hx : p * num = x) (x0 : -110000000000000000 ≤ x) (x1 : x ≤ 110000000000000000) (L : RowKit.Hid (x / den = low)) (l0 : -110000000000000001 ≤ low) (l1 : low ≤ 110000000000000000) (m1 : low * den = x - bl) (m2 : (low + 1) * den = x + ab) (b0 : 0 < bl) (b1 : 0 < ab) (b2 : bl ≤ 100000) (b3 : ab ≤ 100000) (c : bl = ab) (pr : (low.tmod 2 != 0) = true) (hb : decide (isA (low + 1)) = b) (Ht : RowKit.Hid (part p num den 4 = told (low + 1))) : Calls Try.prog 39 #[.int .i64 p, .int .i64 num, .int .i64 den, .int .i64 4] w (PartQ p num den 4 w) := by
  subst c
  have s1 : IntKind.i64.wrap x = x := IntWalk.i64_in _ (by omega)
  have s2 : IntKind.i64.wrap (x - bl) = x - bl := IntWalk.i64_in _ (by omega)
  have ne : (x - bl != x) = true := by simp; omega
  have d1 : x - (x - bl) = bl := by omega
  have d2 : x + bl - x = bl := by omega
  have Hb := Lib.hid hb; clear hb
  go_enter Try.func39, Try.ntmps39
  go_wp2_with fail
  refine (noAmount_any p true _ (decide_eq_true H.out)).mono ?_
  rintro en w1 ⟨rfl, rfl⟩
  go_wp2_with fail
  refine (floor_any x den low _ ⟨by omega, by omega⟩ hd0 (by omega) L.out).mono ?_
  rintro en w1 ⟨rfl, he⟩
  subst he
  go_wp2_with fail
  refine (noAmount_any (low + 1) b _ Hb.out).mono ?_
  rintro en w1 ⟨rfl, he⟩
  subst he
  cases b
  · have ht : told (low + 1) = (0, 8) := by unfold told; rw [if_neg (of_decide_eq_false Hb.out)]
    have HT := Lib.hid ht; clear ht
    go_wp2
    go_ret2
    exact ⟨by rw [Ht.out, HT.out]; rfl, br _⟩
  · have ht : told (low + 1) = (low + 1, 0) := by unfold told; rw [if_pos (of_decide_eq_true Hb.out)]
    have HT := Lib.hid ht; clear ht
    go_wp2
    go_ret2
    exact ⟨by rw [Ht.out, HT.out]; rfl, br _⟩
end Pn
end Go.Proofs.Ytcppeligeodomaa
