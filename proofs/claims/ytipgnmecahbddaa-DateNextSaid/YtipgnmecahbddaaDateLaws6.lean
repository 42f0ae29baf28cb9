/- The next day is one more. -/
import Derived.Test.YtipgnmecahbddaaDateLaws2
import Derived.Test.YtipgnmecahbddaaWeekPlain2
import Derived.Deep.CutRange
set_option linter.unusedVariables false
namespace Go.Proofs.Ytipgnmecahbddaa
open Go.RowKit
namespace Dt
theorem monthDays_any' (y m : Int) (w : World) : Calls Try.prog 24 #[.int .i64 y, .int .i64 m] w fun e w' => e = .returned (.int .i64 (len0 y m)) ∧ Below w.heap.size w w' :=
  (monthDays_any y m w).mono fun _ _ ⟨h1, h2⟩ => ⟨h1, h2 ▸ br w⟩
/-- a block of three written over -/
structure St3 (w wz : World) (q : Nat) (x y z : Value) : Prop where
  oth : ∀ b o, b ≠ q → wz.cell? ⟨b, o, none⟩ = w.cell? ⟨b, o, none⟩
  c0 : wz.cell? ⟨q, 0, none⟩ = some x
  c1 : wz.cell? ⟨q, 1, none⟩ = some y
  c2 : wz.cell? ⟨q, 2, none⟩ = some z
  fr : ∀ o, wz.frozen? ⟨q, o, none⟩ = w.frozen? ⟨q, o, none⟩
  size : wz.heap.size = w.heap.size
  below : ∀ B W, B ≤ q → Below B W w → Below B W wz
theorem set3 {w : World} {q : Nat} {a b c x y z : Value} (h0 : w.cell? ⟨q, 0, none⟩ = some a) (h1 : w.cell? ⟨q, 1, none⟩ = some b) (h2 : w.cell? ⟨q, 2, none⟩ = some c) :
    St3 w (((w.setCell ⟨q, 0, none⟩ x).setCell ⟨q, 1, none⟩ y).setCell ⟨q, 2, none⟩ z) q x y z := by
  have n01 : (⟨q, 0, none⟩ : Addr) ≠ ⟨q, 1, none⟩ := by simp
  have n02 : (⟨q, 0, none⟩ : Addr) ≠ ⟨q, 2, none⟩ := by simp
  have n12 : (⟨q, 1, none⟩ : Addr) ≠ ⟨q, 2, none⟩ := by simp
  have hy : (w.setCell ⟨q, 0, none⟩ x).cell? ⟨q, 1, none⟩ = some b := (World.cell?_setCell_other w _ _ x n01).trans h1
  have hz : ((w.setCell ⟨q, 0, none⟩ x).setCell ⟨q, 1, none⟩ y).cell? ⟨q, 2, none⟩ = some c := (World.cell?_setCell_other _ _ _ y n12).trans ((World.cell?_setCell_other w _ _ x n02).trans h2)
  refine ⟨fun b' o hb => ?_, ?_, ?_, ?_, fun o => ?_, by simp, fun B W hB hb => ((hb.setCell hB x).setCell hB y).setCell hB z⟩
  · have e : ∀ k, (⟨q, k, none⟩ : Addr) ≠ ⟨b', o, none⟩ := fun k h => by injection h with h; exact hb h.symm
    rw [World.cell?_setCell_other _ _ _ _ (e 2), World.cell?_setCell_other _ _ _ _ (e 1), World.cell?_setCell_other _ _ _ _ (e 0)]
  · rw [World.cell?_setCell_other _ _ _ _ (Ne.symm n02), World.cell?_setCell_other _ _ _ _ (Ne.symm n01)]
    exact World.cell?_setCell_same w _ x h0
  · rw [World.cell?_setCell_other _ _ _ _ (Ne.symm n12)]
    exact World.cell?_setCell_same _ _ y hy
  · exact World.cell?_setCell_same _ _ z hz
  · rw [World.frozen?_setCell, World.frozen?_setCell, World.frozen?_setCell]
set_option maxHeartbeats 4000000 in
theorem next_core (n P Q R L : Int) (A B C : Int) (w : World) (p1 : 1 ≤ P) (p2 : P ≤ 9999) (q1 : 1 ≤ Q) (q2 : Q ≤ 12) (r1 : 1 ≤ R) (n1 : 1 ≤ n) (n2 : n < 3652059) (hne : (n == 3652059) = false) (hlb : 28 ≤ L ∧ L ≤ 31) (r2 : R ≤ L)
    (Ho : RowKit.Hid (ofF n = ((P, Q, R), 0))) (Ho2 : RowKit.Hid (ofF (n + 1) = ((A, B, C), 0))) (Hl : RowKit.Hid (len0 P Q = L))
    (cs : RowKit.Hid (((R == L) = false ∧ P = A ∧ Q = B ∧ R + 1 = C) ∨ ((R == L) = true ∧ (Q == 12) = false ∧ P = A ∧ Q + 1 = B ∧ 1 = C) ∨ ((R == L) = true ∧ (Q == 12) = true ∧ P + 1 = A ∧ 1 = B ∧ 1 = C))) :
    Calls Try.prog 7 #[.int .i64 n] w (LT w) := by
  have hx : ∀ a b c : Int, aD (a, b, c) = .agg #[.int .i64 a, .int .i64 b, .int .i64 c] := fun _ _ _ => rfl
  have Hx := Lib.hid hx; clear hx

  go_enter Try.func7, Try.ntmps7
  go_wp2_with fail
  refine (of_any n _).mono ?_
  rintro en w1 ⟨rfl, hb_w1⟩
  rw [Ho.out, Hx.out]
  have n_w1 := hb_w1
  have H_w1 := n_w1
  go_wp2_with fail
  refine (begun_any _).mono ?_
  rintro en w2 ⟨rfl, hb_w2⟩
  have n_w2 := bt ((br _).alloc (Nat.le_refl _) _) hb_w2
  have H_w2 := bt H_w1 n_w2
  have k_w2 := boxc (bx hb_w2)
  have l_w2 := boxs (bx hb_w2)
  go_wp2_with fail
  refine (of_any (n + 1) _).mono ?_
  rintro en w3 ⟨rfl, hb_w3⟩
  rw [Ho2.out, Hx.out]
  have n_w3 := hb_w3
  have H_w3 := bt H_w2 n_w3
  have k_w2 := kc n_w3 l_w2 k_w2
  have l_w2 := kl n_w3 l_w2
  have c20 := k_w2 0; have c21 := k_w2 1; have c22 := k_w2 2
  simp only [List.getElem?_toArray, List.getElem?_cons_zero, List.getElem?_cons_succ] at c20 c21 c22
  go_wp2_with fail
  refine (monthDays_any' P Q _).mono ?_
  rintro en w4 ⟨rfl, hb_w4⟩
  rw [Hl.out]
  have n_w4 := bt ((br _).alloc (Nat.le_refl _) _) hb_w4
  have H_w4 := bt H_w3 n_w4
  have k_w2 := kc n_w4 l_w2 k_w2
  have l_w2 := kl n_w4 l_w2
  have k_w4 := boxc (bx hb_w4)
  have l_w4 := boxs (bx hb_w4)
  clear c20 c21 c22
  have c20 := k_w2 0; have c21 := k_w2 1; have c22 := k_w2 2
  simp only [List.getElem?_toArray, List.getElem?_cons_zero, List.getElem?_cons_succ] at c20 c21 c22
  go_wp2_with fail
  refine (dayL_any P Q (R + 1) _).mono ?_
  rintro en w5 ⟨rfl, hb_w5⟩
  have n_w5 := hb_w5
  have H_w5 := bt H_w4 n_w5
  have k_w2 := kc n_w5 l_w2 k_w2
  have l_w2 := kl n_w5 l_w2
  have k_w4 := kc n_w5 l_w4 k_w4
  have l_w4 := kl n_w5 l_w4
  clear c20 c21 c22
  have c20 := k_w2 0; have c21 := k_w2 1; have c22 := k_w2 2
  have c30 := k_w4 0; have c31 := k_w4 1; have c32 := k_w4 2
  simp only [List.getElem?_toArray, List.getElem?_cons_zero, List.getElem?_cons_succ] at c20 c21 c22 c30 c31 c32
  rcases cs.out with ⟨g1, rfl, rfl, rfl⟩ | ⟨g1, g2, rfl, rfl, rfl⟩ | ⟨g1, g2, rfl, rfl, rfl⟩
  · go_wp2
    go_ret
    exact ⟨by first | rfl | (simp; done) | (simp; omega), H_w5.alloc H_w5.size _⟩
  · skip

    go_wp2_with fail
    refine (dayL_any P (Q + 1) 1 _).mono ?_
    rintro en w6 ⟨rfl, hb_w6⟩
    have n_w6 := bt ((br _).alloc (Nat.le_refl _) _) hb_w6
    have H_w6 := bt H_w5 n_w6
    have k_w2 := kc n_w6 l_w2 k_w2
    have l_w2 := kl n_w6 l_w2
    have k_w4 := kc n_w6 l_w4 k_w4
    have l_w4 := kl n_w6 l_w4
    have k_w6 := boxc (bx hb_w6)
    have l_w6 := boxs (bx hb_w6)
    have f60 := boxf (bx hb_w6) 0
    have f61 := boxf (bx hb_w6) 1
    have f62 := boxf (bx hb_w6) 2
    clear c20 c21 c22 c30 c31 c32
    have c20 := k_w2 0; have c21 := k_w2 1; have c22 := k_w2 2
    have c30 := k_w4 0; have c31 := k_w4 1; have c32 := k_w4 2
    have e60 := k_w6 0; have e61 := k_w6 1; have e62 := k_w6 2
    simp only [List.getElem?_toArray, List.getElem?_cons_zero, List.getElem?_cons_succ] at c20 c21 c22 c30 c31 c32 e60 e61 e62
    have ne1 : w5.heap.size ≠ w1.heap.size := by omega
    have ne3 : w5.heap.size ≠ w3.heap.size := by omega
    clear k_w2 k_w4 k_w6
    have ss := fun x y z => set3 (x := x) (y := y) (z := z) e60 e61 e62
    have SS := Lib.hid ss; clear ss
    go_upto_if 53 with (fail)
    have hz := SS.out (.int .i64 P) (.int .i64 (Q + 1)) (.int .i64 1)
    generalize ((w6.setCell ⟨w5.heap.size, 0, none⟩ (.int .i64 P)).setCell ⟨w5.heap.size, 1, none⟩ (.int .i64 (Q + 1))).setCell ⟨w5.heap.size, 2, none⟩ (.int .i64 1) = wz at *
    have z30 := (hz.oth w3.heap.size 0 (Ne.symm ne3)).trans c30
    have z31 := (hz.oth w3.heap.size 1 (Ne.symm ne3)).trans c31
    have z32 := (hz.oth w3.heap.size 2 (Ne.symm ne3)).trans c32
    have y0 := hz.c0; have y1 := hz.c1; have y2 := hz.c2
    have hB := hz.below w.heap.size w H_w5.size H_w6
    clear hz SS
    go_wp2
    go_ret
    exact ⟨by first | rfl | (simp; done) | (simp; omega), hB⟩
  · skip

    go_wp2_with fail
    refine (dayL_any P (Q + 1) 1 _).mono ?_
    rintro en w6 ⟨rfl, hb_w6⟩
    have n_w6 := bt ((br _).alloc (Nat.le_refl _) _) hb_w6
    have H_w6 := bt H_w5 n_w6
    have k_w2 := kc n_w6 l_w2 k_w2
    have l_w2 := kl n_w6 l_w2
    have k_w4 := kc n_w6 l_w4 k_w4
    have l_w4 := kl n_w6 l_w4
    have k_w6 := boxc (bx hb_w6)
    have l_w6 := boxs (bx hb_w6)
    have f60 := boxf (bx hb_w6) 0
    have f61 := boxf (bx hb_w6) 1
    have f62 := boxf (bx hb_w6) 2
    clear c20 c21 c22 c30 c31 c32
    have c20 := k_w2 0; have c21 := k_w2 1; have c22 := k_w2 2
    have c30 := k_w4 0; have c31 := k_w4 1; have c32 := k_w4 2
    have e60 := k_w6 0; have e61 := k_w6 1; have e62 := k_w6 2
    simp only [List.getElem?_toArray, List.getElem?_cons_zero, List.getElem?_cons_succ] at c20 c21 c22 c30 c31 c32 e60 e61 e62
    have ne1 : w5.heap.size ≠ w1.heap.size := by omega
    have ne3 : w5.heap.size ≠ w3.heap.size := by omega
    clear k_w2 k_w4 k_w6
    have ss := fun x y z => set3 (x := x) (y := y) (z := z) e60 e61 e62
    have SS := Lib.hid ss; clear ss
    go_upto_if 53 with (fail)
    have hz := SS.out (.int .i64 P) (.int .i64 (Q + 1)) (.int .i64 1)
    generalize ((w6.setCell ⟨w5.heap.size, 0, none⟩ (.int .i64 P)).setCell ⟨w5.heap.size, 1, none⟩ (.int .i64 (Q + 1))).setCell ⟨w5.heap.size, 2, none⟩ (.int .i64 1) = wz at *
    have a0 := (hz.oth w1.heap.size 0 (Ne.symm ne1)).trans c20
    have z30 := (hz.oth w3.heap.size 0 (Ne.symm ne3)).trans c30
    have z31 := (hz.oth w3.heap.size 1 (Ne.symm ne3)).trans c31
    have z32 := (hz.oth w3.heap.size 2 (Ne.symm ne3)).trans c32
    have y0 := hz.c0; have y1 := hz.c1; have y2 := hz.c2
    have x0 := (hz.fr 0).trans f60; have x1 := (hz.fr 1).trans f61; have x2 := (hz.fr 2).trans f62
    have hB := hz.below w.heap.size w H_w5.size H_w6
    have hsz := hz.size
    have lz : w5.heap.size < wz.heap.size := by omega
    clear hz SS hsz f60 f61 f62 c20 c21 c22 c30 c31 c32 e60 e61 e62
    go_wp2_with fail
    refine (dayL_any (P + 1) 1 1 _).mono ?_
    rintro en w7 ⟨rfl, hb7⟩
    have z30 := kp hb7 z30; have z31 := kp hb7 z31; have z32 := kp hb7 z32
    have y0 := kp hb7 y0; have y1 := kp hb7 y1; have y2 := kp hb7 y2
    have x0 := (hb7.frozen (p := ⟨w5.heap.size, 0, none⟩) lz).trans x0
    have x1 := (hb7.frozen (p := ⟨w5.heap.size, 1, none⟩) lz).trans x1
    have x2 := (hb7.frozen (p := ⟨w5.heap.size, 2, none⟩) lz).trans x2
    have hB7 := bt hB hb7
    clear a0
    go_wp2
    go_ret
    exact ⟨by first | rfl | (simp; done) | (simp; omega), ((hB7.setCell H_w5.size _).setCell H_w5.size _).setCell H_w5.size _⟩
set_option maxHeartbeats 4000000 in
theorem next_walk (n : Int) (w : World) : Calls Try.prog 7 #[.int .i64 n] w (LT w) := by
  have hx : ∀ a b c : Int, aD (a, b, c) = .agg #[.int .i64 a, .int .i64 b, .int .i64 c] := fun _ _ _ => rfl
  by_cases hn : 1 ≤ n ∧ n < 3652059
  · have ho : ofF n = (dateOf n, 0) := by unfold ofF; rw [if_pos ⟨hn.1, by omega⟩]
    obtain ⟨hv, hr⟩ := dateOf_spec n hn.1 (by omega)
    have hnx := next_law hv (by rw [hr]; exact hn.2)
    rw [hr] at hnx
    have ho2 : ofF (n + 1) = (dateOf (n + 1), 0) := by unfold ofF; rw [if_pos (by omega)]
    rw [hnx] at ho2
    have hdd : dateOf n = ((dateOf n).1, (dateOf n).2.1, (dateOf n).2.2) := rfl
    rw [hdd] at ho
    generalize (dateOf n).1 = P at *
    generalize (dateOf n).2.1 = Q at *
    generalize (dateOf n).2.2 = R at *
    have hl : len0 P Q = len P Q := by unfold len0; rw [if_pos ⟨hv.y1, hv.y2, hv.m1, hv.m2⟩]
    have hlb := len_bd P Q hv.m1 hv.m2
    unfold nextD at ho2
    simp only at ho2
    have hne : ((n : Int) == 3652059) = false := beq_eq_false_iff_ne.2 (by omega)
    by_cases c1 : R = len P Q
    · rw [if_pos c1] at ho2
      by_cases c2 : Q = 12
      · rw [if_pos c2] at ho2
        exact next_core n P Q R _ _ _ _ w hv.y1 hv.y2 hv.m1 hv.m2 hv.d1 hn.1 hn.2 hne hlb hv.d2 (Lib.hid ho) (Lib.hid ho2) (Lib.hid hl) (Lib.hid (.inr (.inr ⟨beq_iff_eq.2 c1, beq_iff_eq.2 c2, rfl, rfl, rfl⟩)))
      · rw [if_neg c2] at ho2
        exact next_core n P Q R _ _ _ _ w hv.y1 hv.y2 hv.m1 hv.m2 hv.d1 hn.1 hn.2 hne hlb hv.d2 (Lib.hid ho) (Lib.hid ho2) (Lib.hid hl) (Lib.hid (.inr (.inl ⟨beq_iff_eq.2 c1, beq_eq_false_iff_ne.2 c2, rfl, rfl, rfl⟩)))
    · rw [if_neg c1] at ho2
      exact next_core n P Q R _ _ _ _ w hv.y1 hv.y2 hv.m1 hv.m2 hv.d1 hn.1 hn.2 hne hlb hv.d2 (Lib.hid ho) (Lib.hid ho2) (Lib.hid hl) (Lib.hid (.inl ⟨beq_eq_false_iff_ne.2 c1, rfl, rfl, rfl⟩))
  · by_cases hn2 : n = 3652059
    · subst hn2
      have ho : ofF 3652059 = ((9999, 12, 31), 0) := by decide
      have Ho := Lib.hid ho; have Hx := Lib.hid hx
      clear ho hx hn

      go_enter Try.func7, Try.ntmps7
      go_wp2_with fail
      refine (of_any 3652059 _).mono ?_
      rintro en w1 ⟨rfl, hb_w1⟩
      rw [Ho.out, Hx.out]
      have n_w1 := hb_w1
      have H_w1 := n_w1
      go_wp2_with fail
      refine (begun_any _).mono ?_
      rintro en w2 ⟨rfl, hb_w2⟩
      have n_w2 := bt ((br _).alloc (Nat.le_refl _) _) hb_w2
      have H_w2 := bt H_w1 n_w2
      have k_w2 := boxc (bx hb_w2)
      have l_w2 := boxs (bx hb_w2)
      go_wp2
      go_ret
      exact ⟨rfl, H_w2⟩
    · have ho : ofF n = ((0, 0, 0), 3) := by unfold ofF; rw [if_neg (by omega)]
      have Ho := Lib.hid ho; have Hx := Lib.hid hx
      clear ho hx hn hn2

      go_enter Try.func7, Try.ntmps7
      go_wp2_with fail
      refine (of_any n _).mono ?_
      rintro en w1 ⟨rfl, hb_w1⟩
      rw [Ho.out, Hx.out]
      have n_w1 := hb_w1
      have H_w1 := n_w1
      go_wp2_with fail
      refine (begun_any _).mono ?_
      rintro en w2 ⟨rfl, hb_w2⟩
      have n_w2 := bt ((br _).alloc (Nat.le_refl _) _) hb_w2
      have H_w2 := bt H_w1 n_w2
      have k_w2 := boxc (bx hb_w2)
      have l_w2 := boxs (bx hb_w2)
      go_wp2
      go_ret
      exact ⟨rfl, H_w2⟩
end Dt
end Go.Proofs.Ytipgnmecahbddaa
