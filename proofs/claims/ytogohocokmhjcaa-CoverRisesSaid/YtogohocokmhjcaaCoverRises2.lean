/- More days cost no less; two parts cost together no less than all of it; with an offer more it costs no more: the walk. -/
import Derived.Test.YtogohocokmhjcaaCoverRises
set_option linter.unusedVariables false
namespace Go.Proofs.Ytogohocokmhjcaa
open Go.RowKit
namespace Cv
set_option maxHeartbeats 2000000 in
theorem rises_walk (v : Value) (xs : List Offer) (a b p q : Int) (w : World) (h : Rd 2 eO w v xs) (hp : (Lit.int .i64 p).wf = true) (hq : (Lit.int .i64 q).wf = true) :
    Calls Try.prog 12 #[v, .int .i64 a, .int .i64 b, .agg #[.int .i64 p, .int .i64 q]] w fun e w' => e = .returned (.bool true) ∧ Below w.heap.size w w' := by
  have H := Lib.hid h
  obtain ⟨ad, cap, rfl, h1, h2, h3⟩ := h
  clear h3
  rcases best_cases xs a with ⟨c, hb, hc, _⟩ | ⟨n, rfl, hn, ok, hl8, hb, hrd⟩
  · have key : ∃ Y F : Int, bestF xs b = (Y, F) ∧ (F = 0 ∨ (F ≠ 0 ∧ Y = 0)) := by
      rcases best_cases xs b with ⟨c', hb', hc', _⟩ | ⟨m, rfl, hm, _, _, hb', _⟩
      · exact ⟨_, _, hb', .inr ⟨hc', rfl⟩⟩
      · exact ⟨_, _, hb', .inl rfl⟩
    obtain ⟨Y, F, hY, hF⟩ := key
    have HB := Lib.hid hb; have HB' := Lib.hid hY
    have hc1 : (c != 0) = true := by simp [hc]
    have hc2 : (c == 0) = false := by simp [hc]
    clear hb hY hc
    rcases hF with rfl | ⟨hF, rfl⟩
    case' inr => have hf2 : (F == 0) = false := by simp [hF]
    all_goals
      go_enter Try.func12, Try.ntmps12
      go_wp2_with fail
      refine (best_any _ xs a _ (H.out.below ((br _).alloc (Nat.le_refl _) _))).mono ?_
      rintro en w1 ⟨rfl, hb1⟩
      rw [HB.out]
      have HB1 : Below w.heap.size w w1 := ((br w).alloc (Nat.le_refl _) _).trans ((bx hb1).mono (by simp))
      have R1 := Lib.hid (H.out.below HB1)
      go_wp2_with fail
      refine (best_any _ xs b _ R1.out).mono ?_
      rintro en w2 ⟨rfl, hb2⟩
      rw [HB'.out]
      go_wp2_with fail
      refine (cbegun_any _).mono ?_
      rintro en w3 ⟨rfl, hb3⟩
      go_wp2
      go_ret
      exact ⟨by first | rfl | (simp; done) | (simp; omega), bt (bt HB1 hb2) hb3⟩
  rcases best_cases xs b with ⟨c, hb', hc, _⟩ | ⟨m, rfl, hm, _, _, hb', _⟩
  · have HB := Lib.hid hb; have HB' := Lib.hid hb'
    have hc1 : (c != 0) = true := by simp [hc]
    have hc2 : (c == 0) = false := by simp [hc]
    clear hb hb' hc
    generalize best xs n = x at *
    go_enter Try.func12, Try.ntmps12
    go_wp2_with fail
    refine (best_any _ xs n _ (H.out.below ((br _).alloc (Nat.le_refl _) _))).mono ?_
    rintro en w1 ⟨rfl, hb1⟩
    rw [HB.out]
    have HB1 : Below w.heap.size w w1 := ((br w).alloc (Nat.le_refl _) _).trans ((bx hb1).mono (by simp))
    have R1 := Lib.hid (H.out.below HB1)
    go_wp2_with fail
    refine (best_any _ xs b _ R1.out).mono ?_
    rintro en w2 ⟨rfl, hb2⟩
    rw [HB'.out]
    go_wp2_with fail
    refine (cbegun_any _).mono ?_
    rintro en w3 ⟨rfl, hb3⟩
    go_wp2
    go_ret
    exact ⟨by first | rfl | (simp; done) | (simp; omega), bt (bt HB1 hb2) hb3⟩
  have hchk := (ready_ok hrd).1
  clear hrd
  have HB := Lib.hid hb; have HB' := Lib.hid hb'; have OK := Lib.hid ok
  have hmono : (n : Int) ≤ m → best xs n ≤ best xs m := fun x => best_mono ok n m (by omega) (by omega)
  obtain ⟨Z, C, hZ, hZC⟩ := more_law ok (p, q) n hn
  obtain ⟨Z2, C2, hZ2, hZC2⟩ := part_law ok hchk n m
  have hxb := best_bd ok n
  have hyb := best_bd ok m
  have hpos : 0 < xs.length := by have := ok.ne; cases xs with | nil => exact absurd rfl this | cons => simp
  have HZ := Lib.hid hZ; have HZ2 := Lib.hid hZ2
  have hxb1 : best xs n ≤ 400000000 := by omega
  have hyb1 : best xs m ≤ 400000000 := by omega
  have hxb0 := hxb.1
  have hyb0 := hyb.1
  clear hb hb' ok hZ hZ2 hxb hyb
  generalize hx : best xs n = x at *
  generalize hy : best xs m = y at *
  have HX := Lib.hid hx; have HY := Lib.hid hy
  clear hx hy
  rcases (show (¬ (n : Int) ≤ m) ∨ ((n : Int) ≤ m ∧ x ≤ y) by omega) with hnm | ⟨hnm, hxy⟩
  all_goals
    clear hmono
    go_enter Try.func12, Try.ntmps12
    go_wp2_with fail
    refine (best_any _ xs n _ (H.out.below ((br _).alloc (Nat.le_refl _) _))).mono ?_
    rintro en w1 ⟨rfl, hb1⟩
    rw [HB.out]
    have hb1 := bx hb1
    have k0 : w1.cell? ⟨w.heap.size, 0, none⟩ = some (.int .i64 p) := boxc hb1 0
    have k1 : w1.cell? ⟨w.heap.size, 1, none⟩ = some (.int .i64 q) := boxc hb1 1
    have lk : w.heap.size < w1.heap.size := boxs hb1
    have HB1 : Below w.heap.size w w1 := ((br w).alloc (Nat.le_refl _) _).trans (hb1.mono (by simp))
    have R1 := Lib.hid (H.out.below HB1)
    clear hb1
    go_wp2_with fail
    refine (best_any _ xs m _ R1.out).mono ?_
    rintro en w2 ⟨rfl, hb2⟩
    rw [HB'.out]
    have k0 := kp hb2 k0; have k1 := kp hb2 k1
    have lk2 : w.heap.size < w2.heap.size := kl hb2 lk
    have R2 := Lib.hid (R1.out.below hb2)
    go_wp2_with fail
    refine (cbegun_any _).mono ?_
    rintro en w3 ⟨rfl, hb3⟩
    have k0 := kp hb3 k0; have k1 := kp hb3 k1
    have lk3 : w.heap.size < w3.heap.size := kl hb3 lk2
    have R3 := Lib.hid (R2.out.below hb3)
    have HB3 := bt (bt HB1 hb2) hb3
    clear hb2 hb3
    go_upto_region 9 with (fail)
    go_region_held3 (fun w' => w'.cell? ⟨w.heap.size, 0, none⟩ = some (.int .i64 p) ∧ w'.cell? ⟨w.heap.size, 1, none⟩ = some (.int .i64 q))
      (first
        | go_keep
        | (go_split_ands; exact ⟨kp hfB3 k0, kp hfB3 k1⟩)
        | (go_split_ands; exact ⟨kp hfB2 k0, kp hfB2 k1⟩)
        | (go_split_ands; exact ⟨kp hfB1 k0, kp hfB1 k1⟩))
      (first
        | (go_at_call 23; (with_reducible refine (best_any _ (xs ++ [(p, q)]) n _ hown2.rd).mono ?_); rintro en w6 ⟨rfl, hb6⟩; have hfB3 : Below w3.heap.size w3 w6 := bt hfB2 hb6)
        | ((refine step_app (by rfl) (.tmp 60) (.tmp 61) (by rfl) w3.heap.size _ [] (by rfl) (own0 w3 _ w3.heap.size rfl (Nat.le_refl _)).drew _ xs (by rfl) (R3.out.below (bn ((br w3).alloc (Nat.le_refl _) _) 1)) hpos (by simp; omega) (by simp) ?_; intro v1 w4 hown1 hbel1 hfar1; have hfB1 : Below w3.heap.size w3 w4 := (bn ((br w3).alloc (Nat.le_refl _) _) 1).trans hbel1; have hown1 : OwnO w4 w3.heap.size v1 xs := hown1))
        | ((refine step_app (by rfl) (.tmp 60) (.tmp 61) (by rfl) w3.heap.size _ [] (by rfl) ((own0 w3 _ w3.heap.size rfl (Nat.le_refl _)).alloc _).drew _ xs (by rfl) (R3.out.below (bn (((br w3).alloc (Nat.le_refl _) _).alloc (by simp) _) 1)) hpos (by simp; omega) (by simp; omega) ?_; intro v1 w4 hown1 hbel1 hfar1; have hfB1 : Below w3.heap.size w3 w4 := (bn (((br w3).alloc (Nat.le_refl _) _).alloc (by simp) _) 1).trans hbel1; have hown1 : OwnO w4 w3.heap.size v1 xs := hown1; have hrd := Lib.hid (far_rd _ hbel1 hfar1 (w3.heap.size + 1) (rd_dr (rd1a _ p q _ (w3.heap.size + 1) (by simp))) (by simp [Value.ownBlock]))))
        | ((refine step_app (by rfl) (.tmp 60) (.tmp 61) (by rfl) w3.heap.size _ [] (by rfl) (own0 (w3.alloc _) _ (w3.heap.size + 1) (by simp) (by omega)).drew _ xs (by rfl) (R3.out.below (bn (((br w3).alloc (Nat.le_refl _) _).alloc (by simp) _) 1)) hpos (by simp; omega) (by simp; omega) ?_; intro v1 w4 hown1 hbel1 hfar1; have hfB1 : Below w3.heap.size w3 w4 := (bn (((br w3).alloc (Nat.le_refl _) _).alloc (by simp) _) 1).trans hbel1; have hown1 : OwnO w4 w3.heap.size v1 xs := hown1; have hrd := Lib.hid (far_rd _ hbel1 hfar1 w3.heap.size (rd_dr ((rd1a w3 p q _ w3.heap.size rfl).below ((br _).alloc (Nat.le_refl _) _))) (by simp [Value.ownBlock]))))
        | ((refine step_app (by rfl) (.tmp 62) (.tmp 64) (by rfl) w3.heap.size _ xs (by rfl) hown1 _ [(p, q)] (by rfl) hrd.out (by simp) (by simp; omega) hfB1.size ?_; intro v2 w5 hown2 hbel2 hfar2; have hfB2 : Below w3.heap.size w3 w5 := hfB1.trans hbel2))
        | ((refine step_app (by rfl) (.tmp 62) (.tmp 64) (by rfl) w3.heap.size _ xs (by rfl) (hown1.alloc _) _ [(p, q)] (by rfl) (rd1a w4 p q _ w4.heap.size rfl) (by simp) (by simp; omega) (by have := hfB1.size; simp; omega) ?_; intro v2 w5 hown2 hbel2 hfar2; have hfB2 : Below w3.heap.size w3 w5 := (hfB1.alloc hfB1.size _).trans hbel2)))
    all_goals
      rw [HZ.out]
      have R6 := Lib.hid (R3.out.below hfB3)
      have HBZ := Lib.hid (HB3.trans (hfB3.mono HB3.size))
      clear hown1 hown2 hbel1 hbel2 hfar1 hfar2 hfB1 hfB2 hfB3 hb6 k0 k1
      rcases hZC with hC | ⟨rfl, hZx⟩
      case' inl => have hC1 : (C == 0) = false := by simp [hC]
      all_goals
        rcases hZC2 with rfl | ⟨rfl, hZy⟩
        all_goals
          go_wp2_with fail
          refine (best_any _ xs ((n : Int) + (m : Int)) _ R6.out).mono ?_
          rintro en w7 ⟨rfl, hb7⟩
          rw [HZ2.out]
          go_wp2
          go_ret
          exact ⟨by first | rfl | (simp; done) | (simp; omega), bt HBZ.out hb7⟩
end Cv
end Go.Proofs.Ytogohocokmhjcaa
