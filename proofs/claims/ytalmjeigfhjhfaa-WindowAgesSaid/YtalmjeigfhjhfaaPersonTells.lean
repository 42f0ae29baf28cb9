/- The package's answers on persons are the document's: the walk. -/
import Derived.Test.YtalmjeigfhjhfaaPersonBegun
import Derived.Test.YtalmjeigfhjhfaaPersonRefP
import Derived.Deep.RegionHeld3
set_option linter.unusedVariables false
namespace Go.Proofs.Ytalmjeigfhjhfaa
open Go.RowKit
namespace Dt
set_option maxHeartbeats 4000000 in
set_option maxRecDepth 100000 in
theorem ptells_walk (b age n : Int) (c : Cl) (v : Value) (xs : List Cl) (w : World) (hl : Rd 3 eC w v xs) : Calls Try.prog 3 #[.int .i64 b, .int .i64 age, .int .i64 n, aC c, v] w fun e w' => e = .returned (.bool true) ∧ Below w.heap.size w w' := by
  have n1 := age_any b n
  have n2 := turns_any b age
  have n3 := window_x b c
  have n4 := percent_any b v xs n
  have n5 := ageR_any b n
  have n6 := turnsR_any b age
  have n7 := windowR_x b c
  have n8 := percentR_any b v xs n
  unfold PairQ at n1 n2 n4 n5 n6 n8
  unfold aC
  generalize (ageF b n).1 = a1 at *
  generalize (ageF b n).2 = a2 at *
  generalize (turnsF b age).1 = t1 at *
  generalize (turnsF b age).2 = t2 at *
  generalize (winF b c).1.1 = X at *
  generalize (winF b c).1.2 = Y at *
  generalize (winF b c).2 = e at *
  generalize (percF b xs n).1 = p1 at *
  generalize (percF b xs n).2 = p2 at *
  generalize c.1 = cf at *
  generalize c.2.1 = ct at *
  generalize c.2.2 = cp at *
  have N1 := Lib.hid n1; have N2 := Lib.hid n2; have N3 := Lib.hid n3; have N4 := Lib.hid n4; have N5 := Lib.hid n5; have N6 := Lib.hid n6; have N7 := Lib.hid n7; have N8 := Lib.hid n8
  have e1 : (a1 == a1) = true := by simp
  have e2 : (a2 == a2) = true := by simp
  have e3 : (t1 == t1) = true := by simp
  have e4 : (t2 == t2) = true := by simp
  have e5 : (X == X) = true := by simp
  have e6 : (Y == Y) = true := by simp
  have e7 : (e == e) = true := by simp
  have e8 : (p1 == p1) = true := by simp
  have e9 : (p2 == p2) = true := by simp
  have HL := Lib.hid hl
  clear n1 n2 n3 n4 n5 n6 n7 n8 hl
  go_enter Try.func3, Try.ntmps3

  go_wp2_with fail
  refine (N1.out _).mono ?_
  rintro en w1 ⟨rfl, hb_w1⟩
  have n_w1 := bt ((br _).alloc (Nat.le_refl _) _) hb_w1
  have H_w1 := n_w1
  have k_w1 := boxc (bx hb_w1)
  have l_w1 := boxs (bx hb_w1)
  go_wp2_with fail
  refine (N2.out _).mono ?_
  rintro en w2 ⟨rfl, hb_w2⟩
  have n_w2 := hb_w2
  have H_w2 := bt H_w1 n_w2
  have k_w1 := kc n_w2 l_w1 k_w1
  have l_w1 := kl n_w2 l_w1
  go_wp2_with fail
  have d0 := k_w1 0; have d1 := k_w1 1; have d2 := k_w1 2
  simp only [List.getElem?_toArray, List.getElem?_cons_zero, List.getElem?_cons_succ] at d0 d1 d2
  refine (N3.out _).mono ?_
  rintro en w3 ⟨rfl, hb3⟩
  have k_w1 := kc hb3 l_w1 k_w1
  have l_w1 := kl hb3 l_w1
  have H_w3 := bt H_w2 hb3
  clear d0 d1 d2 hb3
  go_wp2_with fail
  refine (N4.out _ (HL.out.below (H_w3.alloc H_w3.size _))).mono ?_
  rintro en w4 ⟨rfl, hb_w4⟩
  have n_w4 := bt ((br _).alloc (Nat.le_refl _) _) hb_w4
  have H_w4 := bt H_w3 n_w4
  have k_w1 := kc n_w4 l_w1 k_w1
  have l_w1 := kl n_w4 l_w1
  have k_w4 := boxc (bx hb_w4)
  have l_w4 := boxs (bx hb_w4)
  clear hb_w4

  go_wp2_with fail
  refine (N5.out _).mono ?_
  rintro en w5 ⟨rfl, hb_w5⟩
  have n_w5 := hb_w5
  have H_w5 := bt H_w4 n_w5
  have k_w1 := kc n_w5 l_w1 k_w1
  have l_w1 := kl n_w5 l_w1
  have k_w4 := kc n_w5 l_w4 k_w4
  have l_w4 := kl n_w5 l_w4
  go_wp2_with fail
  refine (N6.out _).mono ?_
  rintro en w6 ⟨rfl, hb_w6⟩
  have n_w6 := hb_w6
  have H_w6 := bt H_w5 n_w6
  have k_w1 := kc n_w6 l_w1 k_w1
  have l_w1 := kl n_w6 l_w1
  have k_w4 := kc n_w6 l_w4 k_w4
  have l_w4 := kl n_w6 l_w4
  go_wp2_with fail
  have d0 := k_w1 0; have d1 := k_w1 1; have d2 := k_w1 2
  simp only [List.getElem?_toArray, List.getElem?_cons_zero, List.getElem?_cons_succ] at d0 d1 d2
  refine (N7.out _).mono ?_
  rintro en w7 ⟨rfl, hb7⟩
  have k_w4 := kc hb7 l_w4 k_w4
  have l_w4 := kl hb7 l_w4
  have H_w7 := bt H_w6 hb7
  clear d0 d1 d2 hb7
  go_wp2_with fail
  refine (N8.out _ (HL.out.below (H_w7.alloc H_w7.size _))).mono ?_
  rintro en w8 ⟨rfl, hb_w8⟩
  have n_w8 := bt ((br _).alloc (Nat.le_refl _) _) hb_w8
  have H_w8 := Lib.hid (bt H_w7 n_w8)
  have k_w4 := kc n_w8 l_w4 k_w4
  have k_w8 := boxc (bx hb_w8)
  have c0 := k_w4 0; have c1 := k_w4 1
  have z0 := k_w8 0; have z1 := k_w8 1
  simp only [List.getElem?_toArray, List.getElem?_cons_zero, List.getElem?_cons_succ] at c0 c1 z0 z1
  clear k_w1 k_w4 k_w8 l_w1 l_w4 hb_w8 n_w8 n_w4 H_w1 H_w2 H_w3 H_w4 H_w5 H_w6 H_w7 hb_w1 hb_w2 hb_w5 hb_w6 n_w1 n_w2 n_w5 n_w6
  go_wp2_with fail
  refine (pbegun_any _).mono ?_
  rintro en wa ⟨rfl, hba⟩
  have hbz := bt (br _) hba
  have c0 := kp hba c0; have c1 := kp hba c1; have z0 := kp hba z0; have z1 := kp hba z1
  have HE := Lib.hid (bt H_w8.out hba)
  clear hba hbz
  go_wp2
  go_ret
  exact ⟨by first | rfl | (simp; done), HE.out⟩
end Dt
end Go.Proofs.Ytalmjeigfhjhfaa
