/- The laws on amounts: the law functions are walked with the contracts of their callees. -/
import Derived.Test.YtogohocokmhjcaaPenceRef2
set_option linter.unusedVariables false
namespace Go.Proofs.Ytogohocokmhjcaa
open Go.RowKit
namespace Pn
set_option maxHeartbeats 1000000 in
theorem begun_any (w : World) : Calls Try.prog 22 #[] w fun e w' => e = .returned (.bool true) ∧ Below w.heap.size w w' := by
  have e1 := Lib.hid (show part 5 1 2 4 = (2, 0) by decide)
  have e2 := Lib.hid (show part (-5) 1 2 3 = (-3, 0) by decide)
  have e3 := Lib.hid (show part 7 1 3 2 = (3, 0) by decide)
  have e4 := Lib.hid (show sum0F [1099511627776, 5, -6] = (1099511627775, 0) by decide +kernel)
  have e5 := Lib.hid (show sumF [1099511627776, 1] = (0, 8) by decide +kernel)
  go_enter Try.func22, Try.ntmps22
  go_wp2_with fail
  refine (part_any 5 1 2 4 _).mono ?_
  rintro en w1 ⟨rfl, hb1⟩
  rw [e1.out]
  go_wp2_with fail
  refine (part_any (-5) 1 2 3 _).mono ?_
  rintro en w2 ⟨rfl, hb2⟩
  rw [e2.out]
  go_wp2_with fail
  refine (part_any 7 1 3 2 _).mono ?_
  rintro en w3 ⟨rfl, hb3⟩
  rw [e3.out]
  go_wp2_with fail
  refine (sum0_any _ [1099511627776, 5, -6] _ (Rd.lit [1099511627776, 5, -6] _ _ _ (show 3 ≤ maxLen by decide))).mono ?_
  rintro en w4 ⟨rfl, hb4⟩
  rw [e4.out]
  go_wp2_with fail
  refine (add_any 1099511627776 1 _).mono ?_
  rintro en w5 ⟨rfl, hb5⟩
  rw [e5.out]
  go_wp2
  go_ret
  exact ⟨by first | rfl | simp, bt (bt (bt (bt (bt hb1 hb2) hb3) ((br _).alloc (Nat.le_refl _) _)) hb4) hb5⟩
set_option maxHeartbeats 1000000 in
theorem tells_walk (a b : Int) (v : Value) (xs : List Int) (num den way : Int) (w : World) (h : Rd 1 eI w v xs) :
    Calls Try.prog 5 #[.int .i64 a, .int .i64 b, v, .int .i64 num, .int .i64 den, .int .i64 way] w fun e w' => e = .returned (.bool true) ∧ Below w.heap.size w w' := by
  have H := Lib.hid h
  obtain ⟨ad, cap, rfl, h1, h2, h3⟩ := h
  clear h3
  by_cases hl : xs.length ≤ 32
  · have hs : sum0F xs = sumF xs := by unfold sum0F; rw [if_pos hl]
    have Hs := Lib.hid hs; clear hs
    go_enter Try.func5, Try.ntmps5
    go_wp2_with fail
    refine (add_any _ _ _).mono ?_
    rintro en w1 ⟨rfl, hb1⟩
    have R1 := Lib.hid (H.out.below hb1)
    go_wp2_with fail
    refine (sum0_any _ xs _ R1.out).mono ?_
    rintro en w2 ⟨rfl, hb2⟩
    have R2 := Lib.hid (R1.out.below hb2)
    rw [Hs.out]
    go_wp2_with fail
    refine (part_any _ _ _ _ _).mono ?_
    rintro en w3 ⟨rfl, hb3⟩
    have R3 := Lib.hid (R2.out.below hb3)
    go_wp2_with fail
    refine (sumR_any _ [a, b] _ (Rd.lit [a, b] _ _ _ (show 2 ≤ maxLen by decide))).mono ?_
    rintro en w4 ⟨rfl, hb4⟩
    have hb4 := bt ((br _).alloc (Nat.le_refl _) _) hb4
    have R4 := Lib.hid (R3.out.below hb4)
    go_wp2_with fail
    refine (sumR_any _ xs _ R4.out).mono ?_
    rintro en w5 ⟨rfl, hb5⟩
    go_wp2_with fail
    refine (partR_any _ _ _ _ _).mono ?_
    rintro en w6 ⟨rfl, hb6⟩
    go_wp2_with fail
    refine (begun_any _).mono ?_
    rintro en w7 ⟨rfl, hb7⟩
    go_wp2
    go_ret
    exact ⟨by first | rfl | simp, bt (bt (bt (bt (bt (bt hb1 hb2) hb3) hb4) hb5) hb6) hb7⟩
  · have hs : sum0F xs = (0, 2) := by unfold sum0F; rw [if_neg hl]
    have Hs := Lib.hid hs; clear hs
    go_enter Try.func5, Try.ntmps5
    go_wp2_with fail
    refine (add_any _ _ _).mono ?_
    rintro en w1 ⟨rfl, hb1⟩
    have R1 := Lib.hid (H.out.below hb1)
    go_wp2_with fail
    refine (sum0_any _ xs _ R1.out).mono ?_
    rintro en w2 ⟨rfl, hb2⟩
    have R2 := Lib.hid (R1.out.below hb2)
    rw [Hs.out]
    go_wp2_with fail
    refine (part_any _ _ _ _ _).mono ?_
    rintro en w3 ⟨rfl, hb3⟩
    have R3 := Lib.hid (R2.out.below hb3)
    go_wp2_with fail
    refine (sumR_any _ [a, b] _ (Rd.lit [a, b] _ _ _ (show 2 ≤ maxLen by decide))).mono ?_
    rintro en w4 ⟨rfl, hb4⟩
    have hb4 := bt ((br _).alloc (Nat.le_refl _) _) hb4
    have R4 := Lib.hid (R3.out.below hb4)
    go_wp2_with fail
    refine (sumR_any _ xs _ R4.out).mono ?_
    rintro en w5 ⟨rfl, hb5⟩
    go_wp2_with fail
    refine (partR_any _ _ _ _ _).mono ?_
    rintro en w6 ⟨rfl, hb6⟩
    go_wp2_with fail
    refine (begun_any _).mono ?_
    rintro en w7 ⟨rfl, hb7⟩
    go_wp2
    go_ret
    exact ⟨by first | rfl | simp, bt (bt (bt (bt (bt (bt hb1 hb2) hb3) hb4) hb5) hb6) hb7⟩
end Pn
end Go.Proofs.Ytogohocokmhjcaa
