/- Easter is a Sunday, from the 22nd of March to the 25th of April. -/
import Derived.Test.YtipgnmecahbddaaEasterLaws2
set_option linter.unusedVariables false
namespace Go.Proofs.Ytipgnmecahbddaa
open Go.RowKit
namespace Dt
set_option maxHeartbeats 2000000 in
theorem esun_core (y N A B Q R K L : Int) (w : World) (Hs : RowKit.Hid (sunF y = (N, 0))) (Ho : RowKit.Hid (ofF N = ((y, Q, R), 0))) (Hw : RowKit.Hid (weekF N = ((K, L, 7), 0))) (HA : RowKit.Hid (dayOf y 3 22 = (A, 0))) (HB : RowKit.Hid (dayOf y 4 25 = (B, 0))) (h1 : A ≤ N) (h2 : N ≤ B) :
    Calls Try.prog 12 #[.int .i64 y] w fun e w' => e = .returned (.bool true) ∧ Below w.heap.size w w' := by
  go_enter Try.func12, Try.ntmps12

  go_wp2_with fail
  refine (sunday_any y _).mono ?_
  rintro en w1 ⟨rfl, hb_w1⟩
  rw [Hs.out]
  have n_w1 := hb_w1
  have H_w1 := n_w1
  go_wp2_with fail
  refine (ebegun_any _).mono ?_
  rintro en w2 ⟨rfl, hb_w2⟩
  have n_w2 := hb_w2
  have H_w2 := bt H_w1 n_w2
  go_wp2_with fail
  refine (of_any N _).mono ?_
  rintro en w3 ⟨rfl, hb_w3⟩
  rw [Ho.out]; simp only [aD]
  have n_w3 := hb_w3
  have H_w3 := bt H_w2 n_w3
  go_wp2_with fail
  refine (week_any N _).mono ?_
  rintro en w4 ⟨rfl, hb_w4⟩
  rw [Hw.out]; simp only [aD]
  have n_w4 := bt ((br _).alloc (Nat.le_refl _) _) hb_w4
  have H_w4 := bt H_w3 n_w4
  have k_w4 := boxc (bx hb_w4)
  have l_w4 := boxs (bx hb_w4)
  go_wp2_with fail
  refine (dayL_any y 3 22 _).mono ?_
  rintro en w5 ⟨rfl, hb_w5⟩
  have n_w5 := bt ((br _).alloc (Nat.le_refl _) _) hb_w5
  have H_w5 := bt H_w4 n_w5
  have k_w4 := kc n_w5 l_w4 k_w4
  have l_w4 := kl n_w5 l_w4
  have k_w5 := boxc (bx hb_w5)
  have l_w5 := boxs (bx hb_w5)
  go_wp2_with fail
  refine (day_any y 3 22 _).mono ?_
  rintro en w6 ⟨rfl, hb_w6⟩
  rw [HA.out]
  have n_w6 := hb_w6
  have H_w6 := bt H_w5 n_w6
  have k_w4 := kc n_w6 l_w4 k_w4
  have l_w4 := kl n_w6 l_w4
  have k_w5 := kc n_w6 l_w5 k_w5
  have l_w5 := kl n_w6 l_w5
  go_wp2_with fail
  refine (dayL_any y 4 25 _).mono ?_
  rintro en w7 ⟨rfl, hb_w7⟩
  have n_w7 := hb_w7
  have H_w7 := bt H_w6 n_w7
  have k_w4 := kc n_w7 l_w4 k_w4
  have l_w4 := kl n_w7 l_w4
  have k_w5 := kc n_w7 l_w5 k_w5
  have l_w5 := kl n_w7 l_w5
  go_wp2_with fail
  refine (day_any y 4 25 _).mono ?_
  rintro en w8 ⟨rfl, hb_w8⟩
  rw [HB.out]
  have n_w8 := hb_w8
  have H_w8 := bt H_w7 n_w8
  have k_w4 := kc n_w8 l_w4 k_w4
  have l_w4 := kl n_w8 l_w4
  have k_w5 := kc n_w8 l_w5 k_w5
  have l_w5 := kl n_w8 l_w5
  go_wp2_with fail
  have c10 := k_w4 0
  have c22 := k_w5 2
  simp only [List.getElem?_toArray, List.getElem?_cons_zero, List.getElem?_cons_succ] at c10 c22
  clear k_w4 k_w5
  go_ret
  exact ⟨by first | rfl | (simp; done) | (simp; omega), by first | exact H_w8 | exact bn H_w8 _⟩
set_option maxHeartbeats 2000000 in
theorem esun_walk (y : Int) (w : World) : Calls Try.prog 12 #[.int .i64 y] w fun e w' => e = .returned (.bool true) ∧ Below w.heap.size w w' := by
  by_cases h : 1583 ≤ y ∧ y ≤ 9999
  · obtain ⟨h1, h2⟩ := h
    have hs : sunF y = (easter y, 0) := by unfold sunF; rw [if_pos ⟨h1, h2⟩]
    obtain ⟨_, a1, a2, a3, _⟩ := easter_ok y h1 h2
    have b := easter_bd y h1 h2
    obtain ⟨_, _, v3, v4, _⟩ := len_vals y
    have va : Valid y 3 22 := ⟨by omega, h2, by decide, by decide, by decide, by omega⟩
    have vb : Valid y 4 25 := ⟨by omega, h2, by decide, by decide, by decide, by omega⟩
    have ra := raw_year va
    have rb := raw_year vb
    have hy := yearOf_uniq (easter y) y b.1 b.2 (by omega) (by omega)
    have ho : ofF (easter y) = ((y, (dateOf (easter y)).2.1, (dateOf (easter y)).2.2), 0) := by
      unfold ofF; rw [if_pos b]
      have : (dateOf (easter y)).1 = y := hy
      rw [show dateOf (easter y) = ((dateOf (easter y)).1, (dateOf (easter y)).2.1, (dateOf (easter y)).2.2) from rfl, this]
    have hw : weekF (easter y) = (((week (easter y)).1, (week (easter y)).2.1, 7), 0) := by
      unfold weekF; rw [if_pos b]
      have : (week (easter y)).2.2 = 7 := a3
      rw [show week (easter y) = ((week (easter y)).1, (week (easter y)).2.1, (week (easter y)).2.2) from rfl, this]
    exact esun_core y _ _ _ _ _ _ _ w (Lib.hid hs) (Lib.hid ho) (Lib.hid hw) (Lib.hid (dayOf_ok va)) (Lib.hid (dayOf_ok vb)) a1 a2
  · have hs : sunF y = (0, 3) := by unfold sunF; rw [if_neg h]
    have Hs := Lib.hid hs; clear hs h
    go_enter Try.func12, Try.ntmps12

    go_wp2_with fail
    refine (sunday_any y _).mono ?_
    rintro en w1 ⟨rfl, hb_w1⟩
    rw [Hs.out]
    have n_w1 := hb_w1
    have H_w1 := n_w1
    go_wp2_with fail
    refine (ebegun_any _).mono ?_
    rintro en w2 ⟨rfl, hb_w2⟩
    have n_w2 := hb_w2
    have H_w2 := bt H_w1 n_w2
    go_wp2
    go_ret
    exact ⟨rfl, H_w2⟩
end Dt
end Go.Proofs.Ytipgnmecahbddaa
