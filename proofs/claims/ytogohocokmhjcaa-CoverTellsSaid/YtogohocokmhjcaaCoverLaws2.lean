/- The offers' functions answer just what the document says. -/
import Derived.Test.YtogohocokmhjcaaCoverBought
import Derived.Test.YtogohocokmhjcaaCoverPlanR
set_option linter.unusedVariables false
namespace Go.Proofs.Ytogohocokmhjcaa
open Go.RowKit
namespace Cv
set_option maxHeartbeats 2000000 in
theorem ctells_walk (v : Value) (xs : List Offer) (d : Int) (w : World) (h : Rd 2 eO w v xs) : Calls Try.prog 9 #[v, .int .i64 d] w fun e w' => e = .returned (.bool true) ∧ Below w.heap.size w w' := by
  have H := Lib.hid h
  obtain ⟨ad, cap, rfl, h1, h2, h3⟩ := h
  clear h3
  generalize hE : bestF xs d = E
  obtain ⟨N, C⟩ := E
  have HE := Lib.hid hE; clear hE
  generalize hR : readyF xs d = R
  have HR := Lib.hid hR; clear hR
  generalize hK : check xs = K
  have HK := Lib.hid hK; clear hK
  go_enter Try.func9, Try.ntmps9
  go_wp2_with fail
  refine (best_any _ xs d _ H.out).mono ?_
  rintro en w1 ⟨rfl, hb1⟩
  rw [HE.out]
  have R1 := Lib.hid (H.out.below hb1)
  go_wp2_with fail
  refine (plan_any _ xs d _ R1.out).mono ?_
  rintro en w2 ⟨p1, L1, rfl, r2, hb2, hL⟩
  have R2 := Lib.hid (R1.out.below hb2)
  have P2 := Lib.hid r2; have HL := Lib.hid hL
  clear r2 hL
  rw [HR.out]
  go_wp2_with fail
  refine (bestR_any _ xs d _ R2.out).mono ?_
  rintro en w3 ⟨rfl, hb3⟩
  rw [HE.out]
  have R3 := Lib.hid (R2.out.below hb3)
  have P3 := Lib.hid (P2.out.below hb3)
  go_wp2_with fail
  refine (planR_any _ xs d _ R3.out).mono ?_
  rintro en w4 ⟨p4, L4, rfl, r4, hb4, hL4⟩
  rw [HR.out]
  have hLL : L4 = L1 := by rw [hL4, HL.out]
  subst hLL
  have R4 := Lib.hid (R3.out.below hb4)
  have P4 := Lib.hid (P3.out.below hb4)
  have Q4 := Lib.hid r4
  clear r4 hL4 HL
  go_wp2_with fail
  refine (cbegun_any _).mono ?_
  rintro en w5 ⟨rfl, hb5⟩
  have R5 := Lib.hid (R4.out.below hb5)
  have P5 := Lib.hid (P4.out.below hb5)
  have Q5 := Lib.hid (Q4.out.below hb5)
  go_wp2_with fail
  refine (check_any _ xs _ R5.out).mono ?_
  rintro en w6 ⟨rfl, hb6⟩
  rw [HK.out]
  have R6 := Lib.hid (R5.out.below hb6)
  have P6 := Lib.hid (P5.out.below hb6)
  have Q6 := Lib.hid (Q5.out.below hb6)
  go_wp2_with fail
  refine (checkR_any _ xs _ R6.out).mono ?_
  rintro en w7 ⟨rfl, hb7⟩
  rw [HK.out]
  have P7 := Lib.hid (P6.out.below hb7)
  have Q7 := Lib.hid (Q6.out.below hb7)
  go_wp2_with fail
  refine (same_any _ _ L4 L4 _ P7.out Q7.out).mono ?_
  rintro en w8 ⟨rfl, hb8⟩
  rw [show decide (L4 = L4) = true from decide_eq_true rfl]
  go_wp2
  go_ret
  exact ⟨by first | rfl | simp, bt (bt (bt (bt (bt (bt (bt hb1 hb2) hb3) hb4) hb5) hb6) hb7) hb8⟩
end Cv
end Go.Proofs.Ytogohocokmhjcaa
