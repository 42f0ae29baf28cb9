/- The laws on Easter: the law functions are walked with the contracts of their callees. -/
import Derived.Test.YtipgnmecahbddaaEasterLaws
set_option linter.unusedVariables false
namespace Go.Proofs.Ytipgnmecahbddaa
open Go.RowKit
namespace Dt
set_option maxHeartbeats 2000000 in
theorem ebegun_any (w : World) : Calls Try.prog 16 #[] w fun e w' => e = .returned (.bool true) ∧ Below w.heap.size w w' := by
  have E1 := Lib.hid (show sunF 2024 = (738976, 0) by decide)
  have E2 := Lib.hid (show ofF 738976 = ((2024, 3, 31), 0) by decide)
  have E3 := Lib.hid (show feastF 1818 1 = (663727, 0) by decide)
  have E4 := Lib.hid (show ofF 663727 = ((1818, 3, 23), 0) by decide)
  have E5 := Lib.hid (show sunF 1582 = (0, 3) by decide)
  go_enter Try.func16, Try.ntmps16

  go_wp2_with fail
  refine (sunday_any 2024 _).mono ?_
  rintro en w1 ⟨rfl, hb_w1⟩
  rw [E1.out]
  have n_w1 := hb_w1
  have H_w1 := n_w1
  go_wp2_with fail
  refine (of_any 738976 _).mono ?_
  rintro en w2 ⟨rfl, hb_w2⟩
  rw [E2.out]; simp only [aD]
  have n_w2 := hb_w2
  have H_w2 := bt H_w1 n_w2
  go_wp2_with fail
  refine (feast_any 1818 1 _).mono ?_
  rintro en w3 ⟨rfl, hb_w3⟩
  rw [E3.out]
  have n_w3 := bt ((br _).alloc (Nat.le_refl _) _) hb_w3
  have H_w3 := bt H_w2 n_w3
  have k_w3 := boxc (bx hb_w3)
  have l_w3 := boxs (bx hb_w3)
  go_wp2_with fail
  refine (of_any 663727 _).mono ?_
  rintro en w4 ⟨rfl, hb_w4⟩
  rw [E4.out]; simp only [aD]
  have n_w4 := hb_w4
  have H_w4 := bt H_w3 n_w4
  have k_w3 := kc n_w4 l_w3 k_w3
  have l_w3 := kl n_w4 l_w3
  go_wp2_with fail
  refine (sunday_any 1582 _).mono ?_
  rintro en w5 ⟨rfl, hb_w5⟩
  rw [E5.out]
  have n_w5 := bt ((br _).alloc (Nat.le_refl _) _) hb_w5
  have H_w5 := bt H_w4 n_w5
  have k_w3 := kc n_w5 l_w3 k_w3
  have l_w3 := kl n_w5 l_w3
  have k_w5 := boxc (bx hb_w5)
  have l_w5 := boxs (bx hb_w5)
  go_wp2_with fail
  have c10 := k_w3 0; have c11 := k_w3 1; have c12 := k_w3 2
  have c20 := k_w5 0; have c21 := k_w5 1; have c22 := k_w5 2
  simp only [List.getElem?_toArray, List.getElem?_cons_zero, List.getElem?_cons_succ] at c10 c11 c12 c20 c21 c22
  clear k_w3 k_w5
  go_region_held3 (fun w' => w'.cell? ⟨w2.heap.size, 0, none⟩ = some (.int .i64 2024) ∧ w'.cell? ⟨w2.heap.size, 1, none⟩ = some (.int .i64 3) ∧ w'.cell? ⟨w2.heap.size, 2, none⟩ = some (.int .i64 31) ∧ w'.cell? ⟨w4.heap.size, 0, none⟩ = some (.int .i64 1818) ∧ w'.cell? ⟨w4.heap.size, 1, none⟩ = some (.int .i64 3) ∧ w'.cell? ⟨w4.heap.size, 2, none⟩ = some (.int .i64 23))
    (first | go_keep | (go_split_ands; (repeat' apply And.intro) <;> first | assumption | exact kp hbb (by assumption) | exact kp hbc (by assumption)))
    (first
      | (go_at_call 25; (with_reducible refine (dayL_any 2024 3 31 _).mono ?_); rintro en wc ⟨rfl, hbc⟩)
      | (go_at_call 25; (with_reducible refine (dayL_any 1818 3 23 _).mono ?_); rintro en wb ⟨rfl, hbb⟩))
  go_wp2
  go_ret
  clear c10 c11 c12 c20 c21 c22
  exact ⟨by first | rfl | simp, bt (bd H_w5 hbc) hbb⟩
set_option maxHeartbeats 2000000 in
theorem etells_walk (y off : Int) (w : World) (hy : -9223372036854775808 ≤ y ∧ y ≤ 9223372036854775807) (ho : -9223372036854775808 ≤ off ∧ off ≤ 9223372036854775807) : Calls Try.prog 3 #[.int .i64 y, .int .i64 off] w fun e w' => e = .returned (.bool true) ∧ Below w.heap.size w w' := by
  by_cases h : 1583 ≤ y ∧ y ≤ 9999
  · have hs : sunF y = (easter y, 0) := by unfold sunF; rw [if_pos h]
    have b := easter_bd y h.1 h.2
    rcases (show (-100 ≤ off ∧ off ≤ 100) ∨ off < -100 ∨ (-100 ≤ off ∧ 100 < off) by omega) with g | g | g
    · have hf : feastF y off = (easter y + off, 0) := by unfold feastF; rw [if_pos ⟨h.1, h.2, g.1, g.2⟩]
      obtain ⟨g1, g2⟩ := g
      generalize easter y = N at *
      have Hs := Lib.hid hs; have Hf := Lib.hid hf; clear hs hf h
      go_enter Try.func3, Try.ntmps3

      go_wp2_with fail
      refine (sunday_any y _).mono ?_
      rintro en w1 ⟨rfl, hb_w1⟩
      rw [Hs.out]
      have n_w1 := hb_w1
      have H_w1 := n_w1
      go_wp2_with fail
      refine (feast_any y off _).mono ?_
      rintro en w2 ⟨rfl, hb_w2⟩
      rw [Hf.out]
      have n_w2 := hb_w2
      have H_w2 := bt H_w1 n_w2
      go_wp2_with fail
      refine (easterOf_any y _).mono ?_
      rintro en w3 ⟨rfl, hb_w3⟩
      rw [Hs.out]
      have n_w3 := hb_w3
      have H_w3 := bt H_w2 n_w3
      go_wp2_with fail
      refine (ebegun_any _).mono ?_
      rintro en w4 ⟨rfl, hb_w4⟩
      have n_w4 := hb_w4
      have H_w4 := bt H_w3 n_w4
      go_wp2
      go_ret
      refine ⟨?_, ?_⟩
      · first | rfl | (simp; done) | simp_all
      · first | exact H_w4 | exact H_w4.alloc H_w4.size _ | exact bn H_w4 _ | exact bn (H_w4.alloc H_w4.size _) _ | exact (bn H_w4 _).alloc H_w4.size _
    · have hf : feastF y off = (0, 3) := by unfold feastF; rw [if_neg (by omega)]
      generalize easter y = N at *
      have Hs := Lib.hid hs; have Hf := Lib.hid hf; clear hs hf h
      go_enter Try.func3, Try.ntmps3

      go_wp2_with fail
      refine (sunday_any y _).mono ?_
      rintro en w1 ⟨rfl, hb_w1⟩
      rw [Hs.out]
      have n_w1 := hb_w1
      have H_w1 := n_w1
      go_wp2_with fail
      refine (feast_any y off _).mono ?_
      rintro en w2 ⟨rfl, hb_w2⟩
      rw [Hf.out]
      have n_w2 := hb_w2
      have H_w2 := bt H_w1 n_w2
      go_wp2_with fail
      refine (easterOf_any y _).mono ?_
      rintro en w3 ⟨rfl, hb_w3⟩
      rw [Hs.out]
      have n_w3 := hb_w3
      have H_w3 := bt H_w2 n_w3
      go_wp2_with fail
      refine (ebegun_any _).mono ?_
      rintro en w4 ⟨rfl, hb_w4⟩
      have n_w4 := hb_w4
      have H_w4 := bt H_w3 n_w4
      go_wp2
      go_ret
      refine ⟨?_, ?_⟩
      · first | rfl | (simp; done) | simp_all
      · first | exact H_w4 | exact H_w4.alloc H_w4.size _ | exact bn H_w4 _ | exact bn (H_w4.alloc H_w4.size _) _ | exact (bn H_w4 _).alloc H_w4.size _
    · have hf : feastF y off = (0, 3) := by unfold feastF; rw [if_neg (by omega)]
      obtain ⟨g1, g2⟩ := g
      generalize easter y = N at *
      have Hs := Lib.hid hs; have Hf := Lib.hid hf; clear hs hf h
      go_enter Try.func3, Try.ntmps3

      go_wp2_with fail
      refine (sunday_any y _).mono ?_
      rintro en w1 ⟨rfl, hb_w1⟩
      rw [Hs.out]
      have n_w1 := hb_w1
      have H_w1 := n_w1
      go_wp2_with fail
      refine (feast_any y off _).mono ?_
      rintro en w2 ⟨rfl, hb_w2⟩
      rw [Hf.out]
      have n_w2 := hb_w2
      have H_w2 := bt H_w1 n_w2
      go_wp2_with fail
      refine (easterOf_any y _).mono ?_
      rintro en w3 ⟨rfl, hb_w3⟩
      rw [Hs.out]
      have n_w3 := hb_w3
      have H_w3 := bt H_w2 n_w3
      go_wp2_with fail
      refine (ebegun_any _).mono ?_
      rintro en w4 ⟨rfl, hb_w4⟩
      have n_w4 := hb_w4
      have H_w4 := bt H_w3 n_w4
      go_wp2
      go_ret
      refine ⟨?_, ?_⟩
      · first | rfl | (simp; done) | simp_all
      · first | exact H_w4 | exact H_w4.alloc H_w4.size _ | exact bn H_w4 _ | exact bn (H_w4.alloc H_w4.size _) _ | exact (bn H_w4 _).alloc H_w4.size _
  · have hs : sunF y = (0, 3) := by unfold sunF; rw [if_neg h]
    have hf : feastF y off = (0, 3) := by unfold feastF; rw [if_neg (by omega)]
    have Hs := Lib.hid hs; have Hf := Lib.hid hf; clear hs hf h
    go_enter Try.func3, Try.ntmps3

    go_wp2_with fail
    refine (sunday_any y _).mono ?_
    rintro en w1 ⟨rfl, hb_w1⟩
    rw [Hs.out]
    have n_w1 := hb_w1
    have H_w1 := n_w1
    go_wp2_with fail
    refine (feast_any y off _).mono ?_
    rintro en w2 ⟨rfl, hb_w2⟩
    rw [Hf.out]
    have n_w2 := hb_w2
    have H_w2 := bt H_w1 n_w2
    go_wp2_with fail
    refine (easterOf_any y _).mono ?_
    rintro en w3 ⟨rfl, hb_w3⟩
    rw [Hs.out]
    have n_w3 := hb_w3
    have H_w3 := bt H_w2 n_w3
    go_wp2_with fail
    refine (ebegun_any _).mono ?_
    rintro en w4 ⟨rfl, hb_w4⟩
    have n_w4 := hb_w4
    have H_w4 := bt H_w3 n_w4
    go_wp2
    go_ret
    refine ⟨?_, ?_⟩
    · first | rfl | (simp; done) | simp_all
    · first | exact H_w4 | exact H_w4.alloc H_w4.size _ | exact bn H_w4 _ | exact bn (H_w4.alloc H_w4.size _) _ | exact (bn H_w4 _).alloc H_w4.size _
set_option maxHeartbeats 2000000 in
theorem egap_walk (y : Int) (w : World) : Calls Try.prog 4 #[.int .i64 y] w fun e w' => e = .returned (.bool true) ∧ Below w.heap.size w w' := by
  by_cases h : 1583 ≤ y ∧ y < 9999
  · obtain ⟨h1, h2⟩ := h
    have hs : sunF y = (easter y, 0) := by unfold sunF; rw [if_pos ⟨h1, by omega⟩]
    have hs2 : sunF (y + 1) = (easter (y + 1), 0) := by unfold sunF; rw [if_pos ⟨by omega, by omega⟩]
    have b := easter_bd y h1 (by omega)
    have hg := easter_gap y h1 h2
    generalize easter y = N at *
    generalize easter (y + 1) = M at *
    have Hs := Lib.hid hs; have Hs2 := Lib.hid hs2; clear hs hs2
    rcases hg with hg | hg | hg | hg
    all_goals
      have HG := Lib.hid hg
      have b2 : 1 ≤ M ∧ M ≤ 4000000 := by omega
      clear hg
      go_enter Try.func4, Try.ntmps4
      go_wp2_with fail
      refine (ebegun_any _).mono ?_
      rintro en w1 ⟨rfl, hb1⟩
      go_wp2_with fail
      refine (sunday_any y _).mono ?_
      rintro en w2 ⟨rfl, hb2⟩
      rw [Hs.out]
      go_wp2_with fail
      refine (sunday_any (y + 1) _).mono ?_
      rintro en w3 ⟨rfl, hb3⟩
      rw [Hs2.out]
      have hg := HG.out
      go_wp2
      go_ret
      exact ⟨by first | rfl | (simp; done) | (simp; omega), bt (bt hb1 hb2) hb3⟩
  · rcases (show y < 1583 ∨ (1583 ≤ y ∧ 9999 ≤ y) by omega) with g | ⟨g, g'⟩
    all_goals
      clear h
      go_enter Try.func4, Try.ntmps4
      go_wp2_with fail
      refine (ebegun_any _).mono ?_
      rintro en w1 ⟨rfl, hb1⟩
      go_wp2
      go_ret
      exact ⟨rfl, hb1⟩
end Dt
end Go.Proofs.Ytipgnmecahbddaa
