/- What must be in any case of persons. -/
import Derived.Test.YtalmjeigfhjhfaaPersonPct
import Derived.Test.YtalmjeigfhjhfaaTermBegun
import Derived.Deep.RegionHeld3
set_option linter.unusedVariables false
namespace Go.Proofs.Ytalmjeigfhjhfaa
open Go.RowKit
namespace Dt
theorem rdc2 {w : World} {g : Nat} {x y : Cl} (h0 : w.cell? ⟨g, 0, none⟩ = some (.int .i64 x.1)) (h1 : w.cell? ⟨g, 1, none⟩ = some (.int .i64 x.2.1)) (h2 : w.cell? ⟨g, 2, none⟩ = some (.int .i64 x.2.2)) (h3 : w.cell? ⟨g, 3, none⟩ = some (.int .i64 y.1)) (h4 : w.cell? ⟨g, 4, none⟩ = some (.int .i64 y.2.1)) (h5 : w.cell? ⟨g, 5, none⟩ = some (.int .i64 y.2.2)) : Rd 3 eC w (.slice (some ⟨g, 0, none⟩) 2 2) [x, y] := by
  refine ⟨_, _, rfl, Nat.le_refl _, by unfold maxLen; omega, fun _ => ⟨g, 0, rfl, World.block_lt_of_cell? w ⟨g, 0, none⟩ h0, ?_⟩⟩
  intro i hi j u hu
  rcases (show i = 0 ∨ i = 1 by simp at hi; omega) with rfl | rfl
  · match j with
    | 0 => simp [eC] at hu; subst hu; exact h0
    | 1 => simp [eC] at hu; subst hu; exact h1
    | 2 => simp [eC] at hu; subst hu; exact h2
    | j + 3 => simp [eC] at hu
  · match j with
    | 0 => simp [eC] at hu; subst hu; exact h3
    | 1 => simp [eC] at hu; subst hu; exact h4
    | 2 => simp [eC] at hu; subst hu; exact h5
    | j + 3 => simp [eC] at hu
theorem p_age1 : ageF 731640 738214 = (18, 0) := age_eq (k := 18) (by decide) (by decide) (by decide) (by decide) (by decide) (by decide)
theorem p_age2 : ageF 731640 738213 = (17, 0) := age_eq (k := 17) (by decide) (by decide) (by decide) (by decide) (by decide) (by decide)
theorem p_age3 : ageF 738214 731640 = (0, 4) := by unfold ageF; rw [if_neg (by decide), if_pos (by decide)]
theorem p_turn : turnsF 731640 18 = (738214, 0) := by decide
theorem p_win : winF 731640 (18, 18, 0) = ((738214, 738579), 0) := by decide
theorem p_perc : percF 731640 [(0, 17, 50), (16, 25, 34)] 738214 = (34, 0) := by decide
set_option maxHeartbeats 2000000 in
set_option maxRecDepth 100000 in
theorem pbegun_any (w : World) : Calls Try.prog 20 #[] w fun e w' => e = .returned (.bool true) ∧ Below w.heap.size w w' := by
  have E1 := Lib.hid (show dayOf 2004 2 29 = (731640, 0) by decide)
  have E2 := Lib.hid (show dayOf 2022 2 28 = (738214, 0) by decide)
  have n1 := age_any 731640 738214
  have n2 := age_any 731640 738213
  have n3 := turns_any 731640 18
  have n4 := percent_any 731640 (xs := [(0, 17, 50), (16, 25, 34)]) (n := 738214)
  have n5 := window_x 731640 (18, 18, 0)
  have n6 := age_any 738214 731640
  rw [p_age1] at n1; rw [p_age2] at n2; rw [p_turn] at n3; rw [p_perc] at n4; rw [p_win] at n5; rw [p_age3] at n6
  unfold PairQ at n1 n2 n3 n4 n6
  go_enter Try.func20, Try.ntmps20

  go_wp2_with fail
  refine (dayL_any _ _ _ _).mono ?_
  rintro en w1 ⟨rfl, hb_w1⟩
  have n_w1 := hb_w1
  have H_w1 := n_w1
  go_wp2_with fail
  refine (day_any _ _ _ _).mono ?_
  rintro en w2 ⟨rfl, hb_w2⟩
  rw [E1.out]
  have n_w2 := hb_w2
  have H_w2 := bt H_w1 n_w2
  go_wp2_with fail
  refine (dayL_any _ _ _ _).mono ?_
  rintro en w3 ⟨rfl, hb_w3⟩
  have n_w3 := hb_w3
  have H_w3 := bt H_w2 n_w3
  go_wp2_with fail
  refine (day_any _ _ _ _).mono ?_
  rintro en w4 ⟨rfl, hb_w4⟩
  rw [E2.out]
  have n_w4 := hb_w4
  have H_w4 := bt H_w3 n_w4
  go_wp2_with fail
  refine (n1 _).mono ?_
  rintro en w5 ⟨rfl, hb_w5⟩
  have n_w5 := hb_w5
  have H_w5 := bt H_w4 n_w5
  go_wp2_with fail
  refine (n2 _).mono ?_
  rintro en w6 ⟨rfl, hb_w6⟩
  have n_w6 := hb_w6
  have H_w6 := bt H_w5 n_w6
  go_wp2_with fail
  refine (n3 _).mono ?_
  rintro en w7 ⟨rfl, hb_w7⟩
  have n_w7 := hb_w7
  have H_w7 := bt H_w6 n_w7
  go_wp2_with fail
  refine (n4 _ _ (rdc2 (x := (0, 17, 50)) (y := (16, 25, 34)) (by rw [World.cell?_alloc_mark]; rfl) (by rw [World.cell?_alloc_mark]; rfl) (by rw [World.cell?_alloc_mark]; rfl) (by rw [World.cell?_alloc_mark]; rfl) (by rw [World.cell?_alloc_mark]; rfl) (by rw [World.cell?_alloc_mark]; rfl))).mono ?_
  rintro en w8 ⟨rfl, hb8⟩
  have H_w8 := bt (H_w7.alloc H_w7.size _) hb8

  go_wp2_with fail
  refine (n5 _).mono ?_
  rintro en w9 ⟨rfl, hb_w9⟩
  have n_w9 := hb_w9
  have H_w9 := bt H_w8 n_w9
  go_wp2_with fail
  refine (n6 _).mono ?_
  rintro en wa ⟨rfl, hb_wa⟩
  have n_wa := bt ((br _).alloc (Nat.le_refl _) _) hb_wa
  have H_wa := bt H_w9 n_wa
  have k_wa := boxc (bx hb_wa)
  have l_wa := boxs (bx hb_wa)
  go_wp2_with fail
  have c10 := k_wa 0; have c11 := k_wa 1
  simp only [List.getElem?_toArray, List.getElem?_cons_zero, List.getElem?_cons_succ] at c10 c11
  have HB := Lib.hid H_wa
  have hw1 : IntKind.i64.wrap (738214 + 365) = 738579 := by decide
  have hw2 : IntKind.i64.wrap 738579 = 738579 := by decide
  have C1 := Lib.hid (spanL_any 738214 738579)
  clear n1 n2 n3 n4 n5 n6 hb_w1 hb_w2 hb_w3 hb_w4 hb_w5 hb_w6 hb_w7 hb8 hb_w9 hb_wa n_w1 n_w2 n_w3 n_w4 n_w5 n_w6 n_w7 n_w9 n_wa H_w1 H_w2 H_w3 H_w4 H_w5 H_w6 H_w7 H_w8 H_w9 H_wa k_wa
  go_region_held3 (fun w' => w'.cell? ⟨w9.heap.size, 0, none⟩ = some (.int .i64 738214) ∧ w'.cell? ⟨w9.heap.size, 1, none⟩ = some (.int .i64 738579))
    (first | go_keep | (go_split_ands; (repeat' apply And.intro) <;> first | assumption | (with_reducible exact kp hbA (by assumption))))
    (first | (go_at_call 43; (with_reducible refine (C1.out _).mono ?_); rintro en wA ⟨rfl, hbA⟩))
  go_wp2
  go_ret
  exact ⟨by first | rfl | (simp; done), bd HB.out hbA⟩
end Dt
end Go.Proofs.Ytalmjeigfhjhfaa
