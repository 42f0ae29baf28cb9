/- A day lies in a class's window, if the age on it is one of the class's; what is off is no less with a class more. -/
import Derived.Test.YtalmjeigfhjhfaaPersonBegun
import Derived.Test.YtalmjeigfhjhfaaPersonPlain2
import Derived.Test.YtalmjeigfhjhfaaClassOwn
import Derived.Deep.RegionHeld3
import Derived.Deep.RegionWith
set_option linter.unusedVariables false
namespace Go.Proofs.Ytalmjeigfhjhfaa
open Go.RowKit
namespace Dt
open Kc
theorem win_age {b n : Int} {c : Cl} {X Y a f : Int} (hw : winF b c = ((X, Y), 0)) (ha : ageF b n = (a, f)) :
    (n < X → f = 0 → a < c.1) ∧ (X ≤ n → Y ≤ n → f = 0 → c.1 ≤ a ∧ c.2.1 < a) ∧ (X ≤ n → n < Y → (f = 0 → c.1 ≤ a ∧ a ≤ c.2.1) ∧ f ≠ 2) := by
  rcases win_cases b c with ⟨e, g, he⟩ | ⟨⟨t1, t2, t3, t4, t5, _, _⟩, t6, t7⟩
  · rw [g] at hw; injection hw with _ hw; exact absurd hw he
  · rw [t7] at hw
    injection hw with hw _; injection hw with hX hY
    rcases age_cases b n with ⟨c', g, hc, h2⟩ | ⟨k, ⟨s1, s2, s3⟩, hk, g, g1, g2⟩
    · rw [g] at ha; injection ha with _ hf
      refine ⟨fun _ h => absurd (hf.trans h) hc, fun _ _ h => absurd (hf.trans h) hc, fun hx hy => ⟨fun h => absurd (hf.trans h) hc, fun h => ?_⟩⟩
      obtain ⟨_, _, _, h5⟩ := h2 (hf.trans h)
      have := tn_mono (Int.le_refl b) t1 t2 (by omega : (0 : Int) ≤ c.2.1 + 1) (by omega : c.2.1 + 1 ≤ 151)
      omega
    · rw [g] at ha; injection ha with ha hf
      have m1 : ∀ p q : Int, 0 ≤ p → p ≤ q → tn b p ≤ tn b q := fun p q hp hq => tn_mono (Int.le_refl b) t1 t2 hp hq
      refine ⟨fun hx _ => ?_, fun hx hy _ => ?_, fun hx hy => ⟨fun _ => ?_, by omega⟩⟩
      · rcases (show (k : Int) < c.1 ∨ c.1 ≤ (k : Int) by omega) with h | h
        · omega
        · have := m1 c.1 k t3 h; omega
      · rcases (show (k : Int) ≤ c.2.1 ∨ c.2.1 < (k : Int) by omega) with h | h
        · have := m1 ((k : Int) + 1) (c.2.1 + 1) (by omega) (by omega); omega
        · exact ⟨by omega, by omega⟩
      · constructor
        · rcases (show c.1 ≤ (k : Int) ∨ (k : Int) + 1 ≤ c.1 by omega) with h | h
          · omega
          · have := m1 ((k : Int) + 1) c.1 (by omega) h; omega
        · rcases (show (k : Int) ≤ c.2.1 ∨ c.2.1 + 1 ≤ (k : Int) by omega) with h | h
          · omega
          · have := m1 (c.2.1 + 1) k (by omega) h; omega
theorem perc_more {b n : Int} {c : Cl} {xs : List Cl} {X Y p g q h : Int} (hw : winF b c = ((X, Y), 0)) (h1 : percF b xs n = (p, g)) (h2 : percF b (xs ++ [c]) n = (q, h)) (g0 : g = 0) (h0 : h = 0) :
    ((X ≤ n ∧ n < Y) → p ≤ q ∧ c.2.2 ≤ q) ∧ (¬(X ≤ n ∧ n < Y) → q = p) := by
  have key : ∀ l r, percF b l n = (r, 0) → r = bestP b n l := fun l r hr => by
    unfold percF at hr
    by_cases a1 : 8 < l.length
    · rw [if_pos a1] at hr; injection hr with _ hr; omega
    · rw [if_neg a1] at hr
      by_cases a2 : errP b l ≠ 0
      · rw [if_pos a2] at hr; injection hr with _ hr; exact absurd hr a2
      · rw [if_neg a2] at hr
        by_cases a3 : n < 1 ∨ 3652059 < n
        · rw [if_pos a3] at hr; injection hr with _ hr; omega
        · rw [if_neg a3] at hr; injection hr with hr _; exact hr.symm
  subst g0; subst h0
  have k1 := key _ _ h1
  have k2 := key _ _ h2
  have k3 : bestP b n (xs ++ [c]) = stepP b n (bestP b n xs) c := by unfold bestP; rw [List.foldl_append]; rfl
  rw [k2, k3, k1]
  unfold stepP
  rw [hw]
  constructor
  · intro hi
    rw [if_pos hi]
    by_cases hm : bestP b n xs < c.2.2
    · rw [if_pos hm]; omega
    · rw [if_neg hm]; omega
  · intro hi
    rw [if_neg hi]
set_option maxHeartbeats 8000000 in
set_option maxRecDepth 100000 in
theorem wages_ok (b n : Int) (cf ct cp : Int) (v : Value) (xs : List Cl) (w : World) (hl : Rd 3 eC w v xs) (hsz : xs.length * 24 ≤ 140737488351232) (X Y a f p g q h : Int)
    (N1 : RowKit.Hid (∀ w, Calls Try.prog 14 #[.int .i64 b, .agg #[.int .i64 cf, .int .i64 ct, .int .i64 cp]] w fun e w' => e = .returned (.tuple #[.agg #[.int .i64 X, .int .i64 Y], .int .i64 0]) ∧ Below w.heap.size w w'))
    (N2 : RowKit.Hid (∀ w, Calls Try.prog 12 #[.int .i64 b, .int .i64 n] w fun e w' => e = .returned (.tuple #[.int .i64 a, .int .i64 f]) ∧ Below w.heap.size w w'))
    (N3 : RowKit.Hid (∀ w, Rd 3 eC w v xs → Calls Try.prog 15 #[.int .i64 b, v, .int .i64 n] w fun e w' => e = .returned (.tuple #[.int .i64 p, .int .i64 g]) ∧ Below w.heap.size w w'))
    (N4 : RowKit.Hid (∀ v w, Rd 3 eC w v (xs ++ [(cf, ct, cp)]) → Calls Try.prog 15 #[.int .i64 b, v, .int .i64 n] w fun e w' => e = .returned (.tuple #[.int .i64 q, .int .i64 h]) ∧ Below w.heap.size w w'))
    (A1 : n < X → f = 0 → a < cf) (A2 : X ≤ n → Y ≤ n → f = 0 → cf ≤ a ∧ ct < a) (A3 : X ≤ n → n < Y → (f = 0 → cf ≤ a ∧ a ≤ ct) ∧ f ≠ 2)
    (PM : RowKit.Hid (g = 0 → h = 0 → ((X ≤ n ∧ n < Y) → p ≤ q ∧ cp ≤ q) ∧ (¬(X ≤ n ∧ n < Y) → q = p))) :
    Calls Try.prog 6 #[.int .i64 b, .agg #[.int .i64 cf, .int .i64 ct, .int .i64 cp], .int .i64 n, v] w fun e w' => e = .returned (.bool true) ∧ Below w.heap.size w w' := by
  have HL := Lib.hid hl
  clear hl
  have hD : (n < X ∧ ¬(X ≤ n ∧ n < Y) ∧ ((f = 0 ∧ a < cf) ∨ f = 2 ∨ (f ≠ 0 ∧ f ≠ 2))) ∨ (X ≤ n ∧ Y ≤ n ∧ ¬(X ≤ n ∧ n < Y) ∧ ((f = 0 ∧ cf ≤ a ∧ ct < a) ∨ f = 2 ∨ (f ≠ 0 ∧ f ≠ 2))) ∨ (X ≤ n ∧ n < Y ∧ ((f = 0 ∧ cf ≤ a ∧ a ≤ ct) ∨ (f ≠ 0 ∧ f ≠ 2))) := by omega
  clear A1 A2 A3
  rcases hD with ⟨i1, hno, ⟨rfl, j1⟩ | rfl | ⟨j1, j2⟩⟩ | ⟨i1, i2, hno, ⟨rfl, j1, j2⟩ | rfl | ⟨j1, j2⟩⟩ | ⟨i1, i2, ⟨rfl, j1, j2⟩ | ⟨j1, j2⟩⟩
  · skip
    go_enter Try.func6, Try.ntmps6

    go_wp2_with fail
    refine (N1.out _).mono ?_
    rintro en w1 ⟨rfl, hb_w1⟩
    have n_w1 := bt ((br _).alloc (Nat.le_refl _) _) hb_w1
    have H_w1 := n_w1
    have k_w1 := boxc (bx hb_w1)
    have l_w1 := boxs (bx hb_w1)
    go_wp2_with fail
    refine (pbegun_any _).mono ?_
    rintro en w2 ⟨rfl, hb_w2⟩
    have n_w2 := bt ((br _).alloc (Nat.le_refl _) _) hb_w2
    have H_w2 := bt H_w1 n_w2
    have k_w1 := kc n_w2 l_w1 k_w1
    have l_w1 := kl n_w2 l_w1
    have k_w2 := boxc (bx hb_w2)
    have l_w2 := boxs (bx hb_w2)
    go_wp2_with fail
    refine (N2.out _).mono ?_
    rintro en w3 ⟨rfl, hb_w3⟩
    have n_w3 := hb_w3
    have H_w3 := bt H_w2 n_w3
    have k_w1 := kc n_w3 l_w1 k_w1
    have l_w1 := kl n_w3 l_w1
    have k_w2 := kc n_w3 l_w2 k_w2
    have l_w2 := kl n_w3 l_w2
    go_wp2_with fail
    have c0 := k_w1 0; have c1 := k_w1 1; have c2 := k_w1 2; have d0 := k_w2 0; have d1 := k_w2 1
    simp only [List.getElem?_toArray, List.getElem?_cons_zero, List.getElem?_cons_succ] at c0 c1 c2 d0 d1
    go_wp2_with fail
    refine (N3.out _ (HL.out.below H_w3)).mono ?_
    rintro en w4 ⟨rfl, hb4⟩
    have k0 := kp hb4 c0; have k1 := kp hb4 c1; have k2 := kp hb4 c2
    have HB4 := Lib.hid (bt H_w3 hb4)
    have R4 := Lib.hid (HL.out.below (bt H_w3 hb4))
    clear c0 c1 c2 d0 d1 k_w1 k_w2 l_w1 l_w2 hb_w1 hb_w2 hb_w3 n_w1 n_w2 n_w3 H_w1 H_w2 H_w3 hb4
    go_wp2_with fail
    go_region_held3 (fun w' => w'.cell? ⟨w.heap.size, 0, none⟩ = some (.int .i64 cf) ∧ w'.cell? ⟨w.heap.size, 1, none⟩ = some (.int .i64 ct) ∧ w'.cell? ⟨w.heap.size, 2, none⟩ = some (.int .i64 cp))
      (first
        | go_keep
        | (go_split_ands; exact ⟨kp hfB3 k0, kp hfB3 k1, kp hfB3 k2⟩)
        | (go_split_ands; exact ⟨kp hfB2 k0, kp hfB2 k1, kp hfB2 k2⟩)
        | (go_split_ands; exact ⟨kp hfB1 k0, kp hfB1 k1, kp hfB1 k2⟩))
      (first
        | (go_at_call 15; (with_reducible refine (N4.out _ _ hown2.rd).mono ?_); rintro en w6 ⟨rfl, hb6⟩; have hfB3 : Below w4.heap.size w4 w6 := bt hfB2 hb6)
        | ((refine step_app (by rfl) (.tmp 79) (.tmp 80) (by rfl) w4.heap.size _ [] (by rfl) (own0 w4 _ w4.heap.size rfl (Nat.le_refl _)).drew _ xs (by rfl) (R4.out.below (bn ((br w4).alloc (Nat.le_refl _) _) 1)) (by simp; omega) (by simp) ?_; intro v1 w5 hown1 hbel1 hfar1; have hfB1 : Below w4.heap.size w4 w5 := (bn ((br w4).alloc (Nat.le_refl _) _) 1).trans hbel1; have hown1 : OwnC w5 w4.heap.size v1 xs := hown1))
        | ((refine step_app (by rfl) (.tmp 79) (.tmp 80) (by rfl) w4.heap.size _ [] (by rfl) ((own0 w4 _ w4.heap.size rfl (Nat.le_refl _)).alloc _).drew _ xs (by rfl) (R4.out.below (bn (((br w4).alloc (Nat.le_refl _) _).alloc (by simp) _) 1)) (by simp; omega) (by simp; omega) ?_; intro v1 w5 hown1 hbel1 hfar1; have hfB1 : Below w4.heap.size w4 w5 := (bn (((br w4).alloc (Nat.le_refl _) _).alloc (by simp) _) 1).trans hbel1; have hown1 : OwnC w5 w4.heap.size v1 xs := hown1; have hrd := Lib.hid (far_rd _ hbel1 hfar1 (w4.heap.size + 1) (rd_dr (rd1a _ cf ct cp _ (w4.heap.size + 1) (by simp))) (by simp [Value.ownBlock]))))
        | ((refine step_app (by rfl) (.tmp 79) (.tmp 80) (by rfl) w4.heap.size _ [] (by rfl) (own0 (w4.alloc _) _ (w4.heap.size + 1) (by simp) (by omega)).drew _ xs (by rfl) (R4.out.below (bn (((br w4).alloc (Nat.le_refl _) _).alloc (by simp) _) 1)) (by simp; omega) (by simp; omega) ?_; intro v1 w5 hown1 hbel1 hfar1; have hfB1 : Below w4.heap.size w4 w5 := (bn (((br w4).alloc (Nat.le_refl _) _).alloc (by simp) _) 1).trans hbel1; have hown1 : OwnC w5 w4.heap.size v1 xs := hown1; have hrd := Lib.hid (far_rd _ hbel1 hfar1 w4.heap.size (rd_dr ((rd1a w4 cf ct cp _ w4.heap.size rfl).below ((br _).alloc (Nat.le_refl _) _))) (by simp [Value.ownBlock]))))
        | ((refine step_app (by rfl) (.tmp 81) (.tmp 83) (by rfl) w4.heap.size _ xs (by rfl) hown1 _ [(cf, ct, cp)] (by rfl) hrd.out (by simp; omega) hfB1.size ?_; intro v2 w5' hown2 hbel2 hfar2; have hfB2 : Below w4.heap.size w4 w5' := hfB1.trans hbel2))
        | ((refine step_app (by rfl) (.tmp 81) (.tmp 83) (by rfl) w4.heap.size _ xs (by rfl) (hown1.alloc _) _ [(cf, ct, cp)] (by rfl) (rd1a w5 cf ct cp _ w5.heap.size rfl) (by simp; omega) (by have := hfB1.size; simp; omega) ?_; intro v2 w5' hown2 hbel2 hfar2; have hfB2 : Below w4.heap.size w4 w5' := (hfB1.alloc hfB1.size _).trans hbel2)))
    all_goals
      have m2 := kp hfB3 k2
      have HB6 := Lib.hid (bt HB4.out hfB3)
      clear hown1 hown2 hbel1 hbel2 hfar1 hfar2 hfB1 hfB2 hfB3 hb6 k0 k1 k2
      by_cases g0 : g = 0
      · by_cases h0 : h = 0
        · have pm := PM.out g0 h0
          subst g0; subst h0
          obtain rfl : q = p := pm.2 hno
          go_wp2
          go_ret
          exact ⟨by first | rfl | (simp; done) | simp_all, HB6.out⟩
        · have hb : (h != 0) = true := by simp [h0]
          subst g0
          go_wp2
          go_ret
          exact ⟨by first | rfl | (simp; done) | simp_all, HB6.out⟩
      · have hb : (g != 0) = true := by simp [g0]
        go_wp2
        go_ret
        exact ⟨by first | rfl | (simp; done) | simp_all, HB6.out⟩
  · skip
    go_enter Try.func6, Try.ntmps6

    go_wp2_with fail
    refine (N1.out _).mono ?_
    rintro en w1 ⟨rfl, hb_w1⟩
    have n_w1 := bt ((br _).alloc (Nat.le_refl _) _) hb_w1
    have H_w1 := n_w1
    have k_w1 := boxc (bx hb_w1)
    have l_w1 := boxs (bx hb_w1)
    go_wp2_with fail
    refine (pbegun_any _).mono ?_
    rintro en w2 ⟨rfl, hb_w2⟩
    have n_w2 := bt ((br _).alloc (Nat.le_refl _) _) hb_w2
    have H_w2 := bt H_w1 n_w2
    have k_w1 := kc n_w2 l_w1 k_w1
    have l_w1 := kl n_w2 l_w1
    have k_w2 := boxc (bx hb_w2)
    have l_w2 := boxs (bx hb_w2)
    go_wp2_with fail
    refine (N2.out _).mono ?_
    rintro en w3 ⟨rfl, hb_w3⟩
    have n_w3 := hb_w3
    have H_w3 := bt H_w2 n_w3
    have k_w1 := kc n_w3 l_w1 k_w1
    have l_w1 := kl n_w3 l_w1
    have k_w2 := kc n_w3 l_w2 k_w2
    have l_w2 := kl n_w3 l_w2
    go_wp2_with fail
    have c0 := k_w1 0; have c1 := k_w1 1; have c2 := k_w1 2; have d0 := k_w2 0; have d1 := k_w2 1
    simp only [List.getElem?_toArray, List.getElem?_cons_zero, List.getElem?_cons_succ] at c0 c1 c2 d0 d1
    go_wp2_with fail
    refine (N3.out _ (HL.out.below H_w3)).mono ?_
    rintro en w4 ⟨rfl, hb4⟩
    have k0 := kp hb4 c0; have k1 := kp hb4 c1; have k2 := kp hb4 c2
    have HB4 := Lib.hid (bt H_w3 hb4)
    have R4 := Lib.hid (HL.out.below (bt H_w3 hb4))
    clear c0 c1 c2 d0 d1 k_w1 k_w2 l_w1 l_w2 hb_w1 hb_w2 hb_w3 n_w1 n_w2 n_w3 H_w1 H_w2 H_w3 hb4
    go_wp2_with fail
    go_region_held3 (fun w' => w'.cell? ⟨w.heap.size, 0, none⟩ = some (.int .i64 cf) ∧ w'.cell? ⟨w.heap.size, 1, none⟩ = some (.int .i64 ct) ∧ w'.cell? ⟨w.heap.size, 2, none⟩ = some (.int .i64 cp))
      (first
        | go_keep
        | (go_split_ands; exact ⟨kp hfB3 k0, kp hfB3 k1, kp hfB3 k2⟩)
        | (go_split_ands; exact ⟨kp hfB2 k0, kp hfB2 k1, kp hfB2 k2⟩)
        | (go_split_ands; exact ⟨kp hfB1 k0, kp hfB1 k1, kp hfB1 k2⟩))
      (first
        | (go_at_call 15; (with_reducible refine (N4.out _ _ hown2.rd).mono ?_); rintro en w6 ⟨rfl, hb6⟩; have hfB3 : Below w4.heap.size w4 w6 := bt hfB2 hb6)
        | ((refine step_app (by rfl) (.tmp 79) (.tmp 80) (by rfl) w4.heap.size _ [] (by rfl) (own0 w4 _ w4.heap.size rfl (Nat.le_refl _)).drew _ xs (by rfl) (R4.out.below (bn ((br w4).alloc (Nat.le_refl _) _) 1)) (by simp; omega) (by simp) ?_; intro v1 w5 hown1 hbel1 hfar1; have hfB1 : Below w4.heap.size w4 w5 := (bn ((br w4).alloc (Nat.le_refl _) _) 1).trans hbel1; have hown1 : OwnC w5 w4.heap.size v1 xs := hown1))
        | ((refine step_app (by rfl) (.tmp 79) (.tmp 80) (by rfl) w4.heap.size _ [] (by rfl) ((own0 w4 _ w4.heap.size rfl (Nat.le_refl _)).alloc _).drew _ xs (by rfl) (R4.out.below (bn (((br w4).alloc (Nat.le_refl _) _).alloc (by simp) _) 1)) (by simp; omega) (by simp; omega) ?_; intro v1 w5 hown1 hbel1 hfar1; have hfB1 : Below w4.heap.size w4 w5 := (bn (((br w4).alloc (Nat.le_refl _) _).alloc (by simp) _) 1).trans hbel1; have hown1 : OwnC w5 w4.heap.size v1 xs := hown1; have hrd := Lib.hid (far_rd _ hbel1 hfar1 (w4.heap.size + 1) (rd_dr (rd1a _ cf ct cp _ (w4.heap.size + 1) (by simp))) (by simp [Value.ownBlock]))))
        | ((refine step_app (by rfl) (.tmp 79) (.tmp 80) (by rfl) w4.heap.size _ [] (by rfl) (own0 (w4.alloc _) _ (w4.heap.size + 1) (by simp) (by omega)).drew _ xs (by rfl) (R4.out.below (bn (((br w4).alloc (Nat.le_refl _) _).alloc (by simp) _) 1)) (by simp; omega) (by simp; omega) ?_; intro v1 w5 hown1 hbel1 hfar1; have hfB1 : Below w4.heap.size w4 w5 := (bn (((br w4).alloc (Nat.le_refl _) _).alloc (by simp) _) 1).trans hbel1; have hown1 : OwnC w5 w4.heap.size v1 xs := hown1; have hrd := Lib.hid (far_rd _ hbel1 hfar1 w4.heap.size (rd_dr ((rd1a w4 cf ct cp _ w4.heap.size rfl).below ((br _).alloc (Nat.le_refl _) _))) (by simp [Value.ownBlock]))))
        | ((refine step_app (by rfl) (.tmp 81) (.tmp 83) (by rfl) w4.heap.size _ xs (by rfl) hown1 _ [(cf, ct, cp)] (by rfl) hrd.out (by simp; omega) hfB1.size ?_; intro v2 w5' hown2 hbel2 hfar2; have hfB2 : Below w4.heap.size w4 w5' := hfB1.trans hbel2))
        | ((refine step_app (by rfl) (.tmp 81) (.tmp 83) (by rfl) w4.heap.size _ xs (by rfl) (hown1.alloc _) _ [(cf, ct, cp)] (by rfl) (rd1a w5 cf ct cp _ w5.heap.size rfl) (by simp; omega) (by have := hfB1.size; simp; omega) ?_; intro v2 w5' hown2 hbel2 hfar2; have hfB2 : Below w4.heap.size w4 w5' := (hfB1.alloc hfB1.size _).trans hbel2)))
    all_goals
      have m2 := kp hfB3 k2
      have HB6 := Lib.hid (bt HB4.out hfB3)
      clear hown1 hown2 hbel1 hbel2 hfar1 hfar2 hfB1 hfB2 hfB3 hb6 k0 k1 k2
      by_cases g0 : g = 0
      · by_cases h0 : h = 0
        · have pm := PM.out g0 h0
          subst g0; subst h0
          obtain rfl : q = p := pm.2 hno
          go_wp2
          go_ret
          exact ⟨by first | rfl | (simp; done) | simp_all, HB6.out⟩
        · have hb : (h != 0) = true := by simp [h0]
          subst g0
          go_wp2
          go_ret
          exact ⟨by first | rfl | (simp; done) | simp_all, HB6.out⟩
      · have hb : (g != 0) = true := by simp [g0]
        go_wp2
        go_ret
        exact ⟨by first | rfl | (simp; done) | simp_all, HB6.out⟩
  · have hb0 : (f == 0) = false := by simp [j1]
    have hb2 : (f == 2) = false := by simp [j2]
    go_enter Try.func6, Try.ntmps6

    go_wp2_with fail
    refine (N1.out _).mono ?_
    rintro en w1 ⟨rfl, hb_w1⟩
    have n_w1 := bt ((br _).alloc (Nat.le_refl _) _) hb_w1
    have H_w1 := n_w1
    have k_w1 := boxc (bx hb_w1)
    have l_w1 := boxs (bx hb_w1)
    go_wp2_with fail
    refine (pbegun_any _).mono ?_
    rintro en w2 ⟨rfl, hb_w2⟩
    have n_w2 := bt ((br _).alloc (Nat.le_refl _) _) hb_w2
    have H_w2 := bt H_w1 n_w2
    have k_w1 := kc n_w2 l_w1 k_w1
    have l_w1 := kl n_w2 l_w1
    have k_w2 := boxc (bx hb_w2)
    have l_w2 := boxs (bx hb_w2)
    go_wp2_with fail
    refine (N2.out _).mono ?_
    rintro en w3 ⟨rfl, hb_w3⟩
    have n_w3 := hb_w3
    have H_w3 := bt H_w2 n_w3
    have k_w1 := kc n_w3 l_w1 k_w1
    have l_w1 := kl n_w3 l_w1
    have k_w2 := kc n_w3 l_w2 k_w2
    have l_w2 := kl n_w3 l_w2
    go_wp2_with fail
    have c0 := k_w1 0; have c1 := k_w1 1; have c2 := k_w1 2; have d0 := k_w2 0; have d1 := k_w2 1
    simp only [List.getElem?_toArray, List.getElem?_cons_zero, List.getElem?_cons_succ] at c0 c1 c2 d0 d1
    go_wp2_with fail
    refine (N3.out _ (HL.out.below H_w3)).mono ?_
    rintro en w4 ⟨rfl, hb4⟩
    have k0 := kp hb4 c0; have k1 := kp hb4 c1; have k2 := kp hb4 c2
    have HB4 := Lib.hid (bt H_w3 hb4)
    have R4 := Lib.hid (HL.out.below (bt H_w3 hb4))
    clear c0 c1 c2 d0 d1 k_w1 k_w2 l_w1 l_w2 hb_w1 hb_w2 hb_w3 n_w1 n_w2 n_w3 H_w1 H_w2 H_w3 hb4
    go_wp2_with fail
    go_region_held3 (fun w' => w'.cell? ⟨w.heap.size, 0, none⟩ = some (.int .i64 cf) ∧ w'.cell? ⟨w.heap.size, 1, none⟩ = some (.int .i64 ct) ∧ w'.cell? ⟨w.heap.size, 2, none⟩ = some (.int .i64 cp))
      (first
        | go_keep
        | (go_split_ands; exact ⟨kp hfB3 k0, kp hfB3 k1, kp hfB3 k2⟩)
        | (go_split_ands; exact ⟨kp hfB2 k0, kp hfB2 k1, kp hfB2 k2⟩)
        | (go_split_ands; exact ⟨kp hfB1 k0, kp hfB1 k1, kp hfB1 k2⟩))
      (first
        | (go_at_call 15; (with_reducible refine (N4.out _ _ hown2.rd).mono ?_); rintro en w6 ⟨rfl, hb6⟩; have hfB3 : Below w4.heap.size w4 w6 := bt hfB2 hb6)
        | ((refine step_app (by rfl) (.tmp 79) (.tmp 80) (by rfl) w4.heap.size _ [] (by rfl) (own0 w4 _ w4.heap.size rfl (Nat.le_refl _)).drew _ xs (by rfl) (R4.out.below (bn ((br w4).alloc (Nat.le_refl _) _) 1)) (by simp; omega) (by simp) ?_; intro v1 w5 hown1 hbel1 hfar1; have hfB1 : Below w4.heap.size w4 w5 := (bn ((br w4).alloc (Nat.le_refl _) _) 1).trans hbel1; have hown1 : OwnC w5 w4.heap.size v1 xs := hown1))
        | ((refine step_app (by rfl) (.tmp 79) (.tmp 80) (by rfl) w4.heap.size _ [] (by rfl) ((own0 w4 _ w4.heap.size rfl (Nat.le_refl _)).alloc _).drew _ xs (by rfl) (R4.out.below (bn (((br w4).alloc (Nat.le_refl _) _).alloc (by simp) _) 1)) (by simp; omega) (by simp; omega) ?_; intro v1 w5 hown1 hbel1 hfar1; have hfB1 : Below w4.heap.size w4 w5 := (bn (((br w4).alloc (Nat.le_refl _) _).alloc (by simp) _) 1).trans hbel1; have hown1 : OwnC w5 w4.heap.size v1 xs := hown1; have hrd := Lib.hid (far_rd _ hbel1 hfar1 (w4.heap.size + 1) (rd_dr (rd1a _ cf ct cp _ (w4.heap.size + 1) (by simp))) (by simp [Value.ownBlock]))))
        | ((refine step_app (by rfl) (.tmp 79) (.tmp 80) (by rfl) w4.heap.size _ [] (by rfl) (own0 (w4.alloc _) _ (w4.heap.size + 1) (by simp) (by omega)).drew _ xs (by rfl) (R4.out.below (bn (((br w4).alloc (Nat.le_refl _) _).alloc (by simp) _) 1)) (by simp; omega) (by simp; omega) ?_; intro v1 w5 hown1 hbel1 hfar1; have hfB1 : Below w4.heap.size w4 w5 := (bn (((br w4).alloc (Nat.le_refl _) _).alloc (by simp) _) 1).trans hbel1; have hown1 : OwnC w5 w4.heap.size v1 xs := hown1; have hrd := Lib.hid (far_rd _ hbel1 hfar1 w4.heap.size (rd_dr ((rd1a w4 cf ct cp _ w4.heap.size rfl).below ((br _).alloc (Nat.le_refl _) _))) (by simp [Value.ownBlock]))))
        | ((refine step_app (by rfl) (.tmp 81) (.tmp 83) (by rfl) w4.heap.size _ xs (by rfl) hown1 _ [(cf, ct, cp)] (by rfl) hrd.out (by simp; omega) hfB1.size ?_; intro v2 w5' hown2 hbel2 hfar2; have hfB2 : Below w4.heap.size w4 w5' := hfB1.trans hbel2))
        | ((refine step_app (by rfl) (.tmp 81) (.tmp 83) (by rfl) w4.heap.size _ xs (by rfl) (hown1.alloc _) _ [(cf, ct, cp)] (by rfl) (rd1a w5 cf ct cp _ w5.heap.size rfl) (by simp; omega) (by have := hfB1.size; simp; omega) ?_; intro v2 w5' hown2 hbel2 hfar2; have hfB2 : Below w4.heap.size w4 w5' := (hfB1.alloc hfB1.size _).trans hbel2)))
    all_goals
      have m2 := kp hfB3 k2
      have HB6 := Lib.hid (bt HB4.out hfB3)
      clear hown1 hown2 hbel1 hbel2 hfar1 hfar2 hfB1 hfB2 hfB3 hb6 k0 k1 k2
      by_cases g0 : g = 0
      · by_cases h0 : h = 0
        · have pm := PM.out g0 h0
          subst g0; subst h0
          obtain rfl : q = p := pm.2 hno
          go_wp2
          go_ret
          exact ⟨by first | rfl | (simp; done) | simp_all, HB6.out⟩
        · have hb : (h != 0) = true := by simp [h0]
          subst g0
          go_wp2
          go_ret
          exact ⟨by first | rfl | (simp; done) | simp_all, HB6.out⟩
      · have hb : (g != 0) = true := by simp [g0]
        go_wp2
        go_ret
        exact ⟨by first | rfl | (simp; done) | simp_all, HB6.out⟩
  · skip
    go_enter Try.func6, Try.ntmps6

    go_wp2_with fail
    refine (N1.out _).mono ?_
    rintro en w1 ⟨rfl, hb_w1⟩
    have n_w1 := bt ((br _).alloc (Nat.le_refl _) _) hb_w1
    have H_w1 := n_w1
    have k_w1 := boxc (bx hb_w1)
    have l_w1 := boxs (bx hb_w1)
    go_wp2_with fail
    refine (pbegun_any _).mono ?_
    rintro en w2 ⟨rfl, hb_w2⟩
    have n_w2 := bt ((br _).alloc (Nat.le_refl _) _) hb_w2
    have H_w2 := bt H_w1 n_w2
    have k_w1 := kc n_w2 l_w1 k_w1
    have l_w1 := kl n_w2 l_w1
    have k_w2 := boxc (bx hb_w2)
    have l_w2 := boxs (bx hb_w2)
    go_wp2_with fail
    refine (N2.out _).mono ?_
    rintro en w3 ⟨rfl, hb_w3⟩
    have n_w3 := hb_w3
    have H_w3 := bt H_w2 n_w3
    have k_w1 := kc n_w3 l_w1 k_w1
    have l_w1 := kl n_w3 l_w1
    have k_w2 := kc n_w3 l_w2 k_w2
    have l_w2 := kl n_w3 l_w2
    go_wp2_with fail
    have c0 := k_w1 0; have c1 := k_w1 1; have c2 := k_w1 2; have d0 := k_w2 0; have d1 := k_w2 1
    simp only [List.getElem?_toArray, List.getElem?_cons_zero, List.getElem?_cons_succ] at c0 c1 c2 d0 d1
    go_wp2_with fail
    refine (N3.out _ (HL.out.below H_w3)).mono ?_
    rintro en w4 ⟨rfl, hb4⟩
    have k0 := kp hb4 c0; have k1 := kp hb4 c1; have k2 := kp hb4 c2
    have HB4 := Lib.hid (bt H_w3 hb4)
    have R4 := Lib.hid (HL.out.below (bt H_w3 hb4))
    clear c0 c1 c2 d0 d1 k_w1 k_w2 l_w1 l_w2 hb_w1 hb_w2 hb_w3 n_w1 n_w2 n_w3 H_w1 H_w2 H_w3 hb4
    go_wp2_with fail
    go_region_held3 (fun w' => w'.cell? ⟨w.heap.size, 0, none⟩ = some (.int .i64 cf) ∧ w'.cell? ⟨w.heap.size, 1, none⟩ = some (.int .i64 ct) ∧ w'.cell? ⟨w.heap.size, 2, none⟩ = some (.int .i64 cp))
      (first
        | go_keep
        | (go_split_ands; exact ⟨kp hfB3 k0, kp hfB3 k1, kp hfB3 k2⟩)
        | (go_split_ands; exact ⟨kp hfB2 k0, kp hfB2 k1, kp hfB2 k2⟩)
        | (go_split_ands; exact ⟨kp hfB1 k0, kp hfB1 k1, kp hfB1 k2⟩))
      (first
        | (go_at_call 15; (with_reducible refine (N4.out _ _ hown2.rd).mono ?_); rintro en w6 ⟨rfl, hb6⟩; have hfB3 : Below w4.heap.size w4 w6 := bt hfB2 hb6)
        | ((refine step_app (by rfl) (.tmp 79) (.tmp 80) (by rfl) w4.heap.size _ [] (by rfl) (own0 w4 _ w4.heap.size rfl (Nat.le_refl _)).drew _ xs (by rfl) (R4.out.below (bn ((br w4).alloc (Nat.le_refl _) _) 1)) (by simp; omega) (by simp) ?_; intro v1 w5 hown1 hbel1 hfar1; have hfB1 : Below w4.heap.size w4 w5 := (bn ((br w4).alloc (Nat.le_refl _) _) 1).trans hbel1; have hown1 : OwnC w5 w4.heap.size v1 xs := hown1))
        | ((refine step_app (by rfl) (.tmp 79) (.tmp 80) (by rfl) w4.heap.size _ [] (by rfl) ((own0 w4 _ w4.heap.size rfl (Nat.le_refl _)).alloc _).drew _ xs (by rfl) (R4.out.below (bn (((br w4).alloc (Nat.le_refl _) _).alloc (by simp) _) 1)) (by simp; omega) (by simp; omega) ?_; intro v1 w5 hown1 hbel1 hfar1; have hfB1 : Below w4.heap.size w4 w5 := (bn (((br w4).alloc (Nat.le_refl _) _).alloc (by simp) _) 1).trans hbel1; have hown1 : OwnC w5 w4.heap.size v1 xs := hown1; have hrd := Lib.hid (far_rd _ hbel1 hfar1 (w4.heap.size + 1) (rd_dr (rd1a _ cf ct cp _ (w4.heap.size + 1) (by simp))) (by simp [Value.ownBlock]))))
        | ((refine step_app (by rfl) (.tmp 79) (.tmp 80) (by rfl) w4.heap.size _ [] (by rfl) (own0 (w4.alloc _) _ (w4.heap.size + 1) (by simp) (by omega)).drew _ xs (by rfl) (R4.out.below (bn (((br w4).alloc (Nat.le_refl _) _).alloc (by simp) _) 1)) (by simp; omega) (by simp; omega) ?_; intro v1 w5 hown1 hbel1 hfar1; have hfB1 : Below w4.heap.size w4 w5 := (bn (((br w4).alloc (Nat.le_refl _) _).alloc (by simp) _) 1).trans hbel1; have hown1 : OwnC w5 w4.heap.size v1 xs := hown1; have hrd := Lib.hid (far_rd _ hbel1 hfar1 w4.heap.size (rd_dr ((rd1a w4 cf ct cp _ w4.heap.size rfl).below ((br _).alloc (Nat.le_refl _) _))) (by simp [Value.ownBlock]))))
        | ((refine step_app (by rfl) (.tmp 81) (.tmp 83) (by rfl) w4.heap.size _ xs (by rfl) hown1 _ [(cf, ct, cp)] (by rfl) hrd.out (by simp; omega) hfB1.size ?_; intro v2 w5' hown2 hbel2 hfar2; have hfB2 : Below w4.heap.size w4 w5' := hfB1.trans hbel2))
        | ((refine step_app (by rfl) (.tmp 81) (.tmp 83) (by rfl) w4.heap.size _ xs (by rfl) (hown1.alloc _) _ [(cf, ct, cp)] (by rfl) (rd1a w5 cf ct cp _ w5.heap.size rfl) (by simp; omega) (by have := hfB1.size; simp; omega) ?_; intro v2 w5' hown2 hbel2 hfar2; have hfB2 : Below w4.heap.size w4 w5' := (hfB1.alloc hfB1.size _).trans hbel2)))
    all_goals
      have m2 := kp hfB3 k2
      have HB6 := Lib.hid (bt HB4.out hfB3)
      clear hown1 hown2 hbel1 hbel2 hfar1 hfar2 hfB1 hfB2 hfB3 hb6 k0 k1 k2
      by_cases g0 : g = 0
      · by_cases h0 : h = 0
        · have pm := PM.out g0 h0
          subst g0; subst h0
          obtain rfl : q = p := pm.2 hno
          go_wp2
          go_ret
          exact ⟨by first | rfl | (simp; done) | simp_all, HB6.out⟩
        · have hb : (h != 0) = true := by simp [h0]
          subst g0
          go_wp2
          go_ret
          exact ⟨by first | rfl | (simp; done) | simp_all, HB6.out⟩
      · have hb : (g != 0) = true := by simp [g0]
        go_wp2
        go_ret
        exact ⟨by first | rfl | (simp; done) | simp_all, HB6.out⟩
  · skip
    go_enter Try.func6, Try.ntmps6

    go_wp2_with fail
    refine (N1.out _).mono ?_
    rintro en w1 ⟨rfl, hb_w1⟩
    have n_w1 := bt ((br _).alloc (Nat.le_refl _) _) hb_w1
    have H_w1 := n_w1
    have k_w1 := boxc (bx hb_w1)
    have l_w1 := boxs (bx hb_w1)
    go_wp2_with fail
    refine (pbegun_any _).mono ?_
    rintro en w2 ⟨rfl, hb_w2⟩
    have n_w2 := bt ((br _).alloc (Nat.le_refl _) _) hb_w2
    have H_w2 := bt H_w1 n_w2
    have k_w1 := kc n_w2 l_w1 k_w1
    have l_w1 := kl n_w2 l_w1
    have k_w2 := boxc (bx hb_w2)
    have l_w2 := boxs (bx hb_w2)
    go_wp2_with fail
    refine (N2.out _).mono ?_
    rintro en w3 ⟨rfl, hb_w3⟩
    have n_w3 := hb_w3
    have H_w3 := bt H_w2 n_w3
    have k_w1 := kc n_w3 l_w1 k_w1
    have l_w1 := kl n_w3 l_w1
    have k_w2 := kc n_w3 l_w2 k_w2
    have l_w2 := kl n_w3 l_w2
    go_wp2_with fail
    have c0 := k_w1 0; have c1 := k_w1 1; have c2 := k_w1 2; have d0 := k_w2 0; have d1 := k_w2 1
    simp only [List.getElem?_toArray, List.getElem?_cons_zero, List.getElem?_cons_succ] at c0 c1 c2 d0 d1
    go_wp2_with fail
    refine (N3.out _ (HL.out.below H_w3)).mono ?_
    rintro en w4 ⟨rfl, hb4⟩
    have k0 := kp hb4 c0; have k1 := kp hb4 c1; have k2 := kp hb4 c2
    have HB4 := Lib.hid (bt H_w3 hb4)
    have R4 := Lib.hid (HL.out.below (bt H_w3 hb4))
    clear c0 c1 c2 d0 d1 k_w1 k_w2 l_w1 l_w2 hb_w1 hb_w2 hb_w3 n_w1 n_w2 n_w3 H_w1 H_w2 H_w3 hb4
    go_wp2_with fail
    go_region_held3 (fun w' => w'.cell? ⟨w.heap.size, 0, none⟩ = some (.int .i64 cf) ∧ w'.cell? ⟨w.heap.size, 1, none⟩ = some (.int .i64 ct) ∧ w'.cell? ⟨w.heap.size, 2, none⟩ = some (.int .i64 cp))
      (first
        | go_keep
        | (go_split_ands; exact ⟨kp hfB3 k0, kp hfB3 k1, kp hfB3 k2⟩)
        | (go_split_ands; exact ⟨kp hfB2 k0, kp hfB2 k1, kp hfB2 k2⟩)
        | (go_split_ands; exact ⟨kp hfB1 k0, kp hfB1 k1, kp hfB1 k2⟩))
      (first
        | (go_at_call 15; (with_reducible refine (N4.out _ _ hown2.rd).mono ?_); rintro en w6 ⟨rfl, hb6⟩; have hfB3 : Below w4.heap.size w4 w6 := bt hfB2 hb6)
        | ((refine step_app (by rfl) (.tmp 79) (.tmp 80) (by rfl) w4.heap.size _ [] (by rfl) (own0 w4 _ w4.heap.size rfl (Nat.le_refl _)).drew _ xs (by rfl) (R4.out.below (bn ((br w4).alloc (Nat.le_refl _) _) 1)) (by simp; omega) (by simp) ?_; intro v1 w5 hown1 hbel1 hfar1; have hfB1 : Below w4.heap.size w4 w5 := (bn ((br w4).alloc (Nat.le_refl _) _) 1).trans hbel1; have hown1 : OwnC w5 w4.heap.size v1 xs := hown1))
        | ((refine step_app (by rfl) (.tmp 79) (.tmp 80) (by rfl) w4.heap.size _ [] (by rfl) ((own0 w4 _ w4.heap.size rfl (Nat.le_refl _)).alloc _).drew _ xs (by rfl) (R4.out.below (bn (((br w4).alloc (Nat.le_refl _) _).alloc (by simp) _) 1)) (by simp; omega) (by simp; omega) ?_; intro v1 w5 hown1 hbel1 hfar1; have hfB1 : Below w4.heap.size w4 w5 := (bn (((br w4).alloc (Nat.le_refl _) _).alloc (by simp) _) 1).trans hbel1; have hown1 : OwnC w5 w4.heap.size v1 xs := hown1; have hrd := Lib.hid (far_rd _ hbel1 hfar1 (w4.heap.size + 1) (rd_dr (rd1a _ cf ct cp _ (w4.heap.size + 1) (by simp))) (by simp [Value.ownBlock]))))
        | ((refine step_app (by rfl) (.tmp 79) (.tmp 80) (by rfl) w4.heap.size _ [] (by rfl) (own0 (w4.alloc _) _ (w4.heap.size + 1) (by simp) (by omega)).drew _ xs (by rfl) (R4.out.below (bn (((br w4).alloc (Nat.le_refl _) _).alloc (by simp) _) 1)) (by simp; omega) (by simp; omega) ?_; intro v1 w5 hown1 hbel1 hfar1; have hfB1 : Below w4.heap.size w4 w5 := (bn (((br w4).alloc (Nat.le_refl _) _).alloc (by simp) _) 1).trans hbel1; have hown1 : OwnC w5 w4.heap.size v1 xs := hown1; have hrd := Lib.hid (far_rd _ hbel1 hfar1 w4.heap.size (rd_dr ((rd1a w4 cf ct cp _ w4.heap.size rfl).below ((br _).alloc (Nat.le_refl _) _))) (by simp [Value.ownBlock]))))
        | ((refine step_app (by rfl) (.tmp 81) (.tmp 83) (by rfl) w4.heap.size _ xs (by rfl) hown1 _ [(cf, ct, cp)] (by rfl) hrd.out (by simp; omega) hfB1.size ?_; intro v2 w5' hown2 hbel2 hfar2; have hfB2 : Below w4.heap.size w4 w5' := hfB1.trans hbel2))
        | ((refine step_app (by rfl) (.tmp 81) (.tmp 83) (by rfl) w4.heap.size _ xs (by rfl) (hown1.alloc _) _ [(cf, ct, cp)] (by rfl) (rd1a w5 cf ct cp _ w5.heap.size rfl) (by simp; omega) (by have := hfB1.size; simp; omega) ?_; intro v2 w5' hown2 hbel2 hfar2; have hfB2 : Below w4.heap.size w4 w5' := (hfB1.alloc hfB1.size _).trans hbel2)))
    all_goals
      have m2 := kp hfB3 k2
      have HB6 := Lib.hid (bt HB4.out hfB3)
      clear hown1 hown2 hbel1 hbel2 hfar1 hfar2 hfB1 hfB2 hfB3 hb6 k0 k1 k2
      by_cases g0 : g = 0
      · by_cases h0 : h = 0
        · have pm := PM.out g0 h0
          subst g0; subst h0
          obtain rfl : q = p := pm.2 hno
          go_wp2
          go_ret
          exact ⟨by first | rfl | (simp; done) | simp_all, HB6.out⟩
        · have hb : (h != 0) = true := by simp [h0]
          subst g0
          go_wp2
          go_ret
          exact ⟨by first | rfl | (simp; done) | simp_all, HB6.out⟩
      · have hb : (g != 0) = true := by simp [g0]
        go_wp2
        go_ret
        exact ⟨by first | rfl | (simp; done) | simp_all, HB6.out⟩
  · have hb0 : (f == 0) = false := by simp [j1]
    have hb2 : (f == 2) = false := by simp [j2]
    go_enter Try.func6, Try.ntmps6

    go_wp2_with fail
    refine (N1.out _).mono ?_
    rintro en w1 ⟨rfl, hb_w1⟩
    have n_w1 := bt ((br _).alloc (Nat.le_refl _) _) hb_w1
    have H_w1 := n_w1
    have k_w1 := boxc (bx hb_w1)
    have l_w1 := boxs (bx hb_w1)
    go_wp2_with fail
    refine (pbegun_any _).mono ?_
    rintro en w2 ⟨rfl, hb_w2⟩
    have n_w2 := bt ((br _).alloc (Nat.le_refl _) _) hb_w2
    have H_w2 := bt H_w1 n_w2
    have k_w1 := kc n_w2 l_w1 k_w1
    have l_w1 := kl n_w2 l_w1
    have k_w2 := boxc (bx hb_w2)
    have l_w2 := boxs (bx hb_w2)
    go_wp2_with fail
    refine (N2.out _).mono ?_
    rintro en w3 ⟨rfl, hb_w3⟩
    have n_w3 := hb_w3
    have H_w3 := bt H_w2 n_w3
    have k_w1 := kc n_w3 l_w1 k_w1
    have l_w1 := kl n_w3 l_w1
    have k_w2 := kc n_w3 l_w2 k_w2
    have l_w2 := kl n_w3 l_w2
    go_wp2_with fail
    have c0 := k_w1 0; have c1 := k_w1 1; have c2 := k_w1 2; have d0 := k_w2 0; have d1 := k_w2 1
    simp only [List.getElem?_toArray, List.getElem?_cons_zero, List.getElem?_cons_succ] at c0 c1 c2 d0 d1
    go_wp2_with fail
    refine (N3.out _ (HL.out.below H_w3)).mono ?_
    rintro en w4 ⟨rfl, hb4⟩
    have k0 := kp hb4 c0; have k1 := kp hb4 c1; have k2 := kp hb4 c2
    have HB4 := Lib.hid (bt H_w3 hb4)
    have R4 := Lib.hid (HL.out.below (bt H_w3 hb4))
    clear c0 c1 c2 d0 d1 k_w1 k_w2 l_w1 l_w2 hb_w1 hb_w2 hb_w3 n_w1 n_w2 n_w3 H_w1 H_w2 H_w3 hb4
    go_wp2_with fail
    go_region_held3 (fun w' => w'.cell? ⟨w.heap.size, 0, none⟩ = some (.int .i64 cf) ∧ w'.cell? ⟨w.heap.size, 1, none⟩ = some (.int .i64 ct) ∧ w'.cell? ⟨w.heap.size, 2, none⟩ = some (.int .i64 cp))
      (first
        | go_keep
        | (go_split_ands; exact ⟨kp hfB3 k0, kp hfB3 k1, kp hfB3 k2⟩)
        | (go_split_ands; exact ⟨kp hfB2 k0, kp hfB2 k1, kp hfB2 k2⟩)
        | (go_split_ands; exact ⟨kp hfB1 k0, kp hfB1 k1, kp hfB1 k2⟩))
      (first
        | (go_at_call 15; (with_reducible refine (N4.out _ _ hown2.rd).mono ?_); rintro en w6 ⟨rfl, hb6⟩; have hfB3 : Below w4.heap.size w4 w6 := bt hfB2 hb6)
        | ((refine step_app (by rfl) (.tmp 79) (.tmp 80) (by rfl) w4.heap.size _ [] (by rfl) (own0 w4 _ w4.heap.size rfl (Nat.le_refl _)).drew _ xs (by rfl) (R4.out.below (bn ((br w4).alloc (Nat.le_refl _) _) 1)) (by simp; omega) (by simp) ?_; intro v1 w5 hown1 hbel1 hfar1; have hfB1 : Below w4.heap.size w4 w5 := (bn ((br w4).alloc (Nat.le_refl _) _) 1).trans hbel1; have hown1 : OwnC w5 w4.heap.size v1 xs := hown1))
        | ((refine step_app (by rfl) (.tmp 79) (.tmp 80) (by rfl) w4.heap.size _ [] (by rfl) ((own0 w4 _ w4.heap.size rfl (Nat.le_refl _)).alloc _).drew _ xs (by rfl) (R4.out.below (bn (((br w4).alloc (Nat.le_refl _) _).alloc (by simp) _) 1)) (by simp; omega) (by simp; omega) ?_; intro v1 w5 hown1 hbel1 hfar1; have hfB1 : Below w4.heap.size w4 w5 := (bn (((br w4).alloc (Nat.le_refl _) _).alloc (by simp) _) 1).trans hbel1; have hown1 : OwnC w5 w4.heap.size v1 xs := hown1; have hrd := Lib.hid (far_rd _ hbel1 hfar1 (w4.heap.size + 1) (rd_dr (rd1a _ cf ct cp _ (w4.heap.size + 1) (by simp))) (by simp [Value.ownBlock]))))
        | ((refine step_app (by rfl) (.tmp 79) (.tmp 80) (by rfl) w4.heap.size _ [] (by rfl) (own0 (w4.alloc _) _ (w4.heap.size + 1) (by simp) (by omega)).drew _ xs (by rfl) (R4.out.below (bn (((br w4).alloc (Nat.le_refl _) _).alloc (by simp) _) 1)) (by simp; omega) (by simp; omega) ?_; intro v1 w5 hown1 hbel1 hfar1; have hfB1 : Below w4.heap.size w4 w5 := (bn (((br w4).alloc (Nat.le_refl _) _).alloc (by simp) _) 1).trans hbel1; have hown1 : OwnC w5 w4.heap.size v1 xs := hown1; have hrd := Lib.hid (far_rd _ hbel1 hfar1 w4.heap.size (rd_dr ((rd1a w4 cf ct cp _ w4.heap.size rfl).below ((br _).alloc (Nat.le_refl _) _))) (by simp [Value.ownBlock]))))
        | ((refine step_app (by rfl) (.tmp 81) (.tmp 83) (by rfl) w4.heap.size _ xs (by rfl) hown1 _ [(cf, ct, cp)] (by rfl) hrd.out (by simp; omega) hfB1.size ?_; intro v2 w5' hown2 hbel2 hfar2; have hfB2 : Below w4.heap.size w4 w5' := hfB1.trans hbel2))
        | ((refine step_app (by rfl) (.tmp 81) (.tmp 83) (by rfl) w4.heap.size _ xs (by rfl) (hown1.alloc _) _ [(cf, ct, cp)] (by rfl) (rd1a w5 cf ct cp _ w5.heap.size rfl) (by simp; omega) (by have := hfB1.size; simp; omega) ?_; intro v2 w5' hown2 hbel2 hfar2; have hfB2 : Below w4.heap.size w4 w5' := (hfB1.alloc hfB1.size _).trans hbel2)))
    all_goals
      have m2 := kp hfB3 k2
      have HB6 := Lib.hid (bt HB4.out hfB3)
      clear hown1 hown2 hbel1 hbel2 hfar1 hfar2 hfB1 hfB2 hfB3 hb6 k0 k1 k2
      by_cases g0 : g = 0
      · by_cases h0 : h = 0
        · have pm := PM.out g0 h0
          subst g0; subst h0
          obtain rfl : q = p := pm.2 hno
          go_wp2
          go_ret
          exact ⟨by first | rfl | (simp; done) | simp_all, HB6.out⟩
        · have hb : (h != 0) = true := by simp [h0]
          subst g0
          go_wp2
          go_ret
          exact ⟨by first | rfl | (simp; done) | simp_all, HB6.out⟩
      · have hb : (g != 0) = true := by simp [g0]
        go_wp2
        go_ret
        exact ⟨by first | rfl | (simp; done) | simp_all, HB6.out⟩
  · skip
    go_enter Try.func6, Try.ntmps6

    go_wp2_with fail
    refine (N1.out _).mono ?_
    rintro en w1 ⟨rfl, hb_w1⟩
    have n_w1 := bt ((br _).alloc (Nat.le_refl _) _) hb_w1
    have H_w1 := n_w1
    have k_w1 := boxc (bx hb_w1)
    have l_w1 := boxs (bx hb_w1)
    go_wp2_with fail
    refine (pbegun_any _).mono ?_
    rintro en w2 ⟨rfl, hb_w2⟩
    have n_w2 := bt ((br _).alloc (Nat.le_refl _) _) hb_w2
    have H_w2 := bt H_w1 n_w2
    have k_w1 := kc n_w2 l_w1 k_w1
    have l_w1 := kl n_w2 l_w1
    have k_w2 := boxc (bx hb_w2)
    have l_w2 := boxs (bx hb_w2)
    go_wp2_with fail
    refine (N2.out _).mono ?_
    rintro en w3 ⟨rfl, hb_w3⟩
    have n_w3 := hb_w3
    have H_w3 := bt H_w2 n_w3
    have k_w1 := kc n_w3 l_w1 k_w1
    have l_w1 := kl n_w3 l_w1
    have k_w2 := kc n_w3 l_w2 k_w2
    have l_w2 := kl n_w3 l_w2
    go_wp2_with fail
    have c0 := k_w1 0; have c1 := k_w1 1; have c2 := k_w1 2; have d0 := k_w2 0; have d1 := k_w2 1
    simp only [List.getElem?_toArray, List.getElem?_cons_zero, List.getElem?_cons_succ] at c0 c1 c2 d0 d1
    go_wp2_with fail
    refine (N3.out _ (HL.out.below H_w3)).mono ?_
    rintro en w4 ⟨rfl, hb4⟩
    have k0 := kp hb4 c0; have k1 := kp hb4 c1; have k2 := kp hb4 c2
    have HB4 := Lib.hid (bt H_w3 hb4)
    have R4 := Lib.hid (HL.out.below (bt H_w3 hb4))
    clear c0 c1 c2 d0 d1 k_w1 k_w2 l_w1 l_w2 hb_w1 hb_w2 hb_w3 n_w1 n_w2 n_w3 H_w1 H_w2 H_w3 hb4
    go_wp2_with fail
    go_region_held3 (fun w' => w'.cell? ⟨w.heap.size, 0, none⟩ = some (.int .i64 cf) ∧ w'.cell? ⟨w.heap.size, 1, none⟩ = some (.int .i64 ct) ∧ w'.cell? ⟨w.heap.size, 2, none⟩ = some (.int .i64 cp))
      (first
        | go_keep
        | (go_split_ands; exact ⟨kp hfB3 k0, kp hfB3 k1, kp hfB3 k2⟩)
        | (go_split_ands; exact ⟨kp hfB2 k0, kp hfB2 k1, kp hfB2 k2⟩)
        | (go_split_ands; exact ⟨kp hfB1 k0, kp hfB1 k1, kp hfB1 k2⟩))
      (first
        | (go_at_call 15; (with_reducible refine (N4.out _ _ hown2.rd).mono ?_); rintro en w6 ⟨rfl, hb6⟩; have hfB3 : Below w4.heap.size w4 w6 := bt hfB2 hb6)
        | ((refine step_app (by rfl) (.tmp 79) (.tmp 80) (by rfl) w4.heap.size _ [] (by rfl) (own0 w4 _ w4.heap.size rfl (Nat.le_refl _)).drew _ xs (by rfl) (R4.out.below (bn ((br w4).alloc (Nat.le_refl _) _) 1)) (by simp; omega) (by simp) ?_; intro v1 w5 hown1 hbel1 hfar1; have hfB1 : Below w4.heap.size w4 w5 := (bn ((br w4).alloc (Nat.le_refl _) _) 1).trans hbel1; have hown1 : OwnC w5 w4.heap.size v1 xs := hown1))
        | ((refine step_app (by rfl) (.tmp 79) (.tmp 80) (by rfl) w4.heap.size _ [] (by rfl) ((own0 w4 _ w4.heap.size rfl (Nat.le_refl _)).alloc _).drew _ xs (by rfl) (R4.out.below (bn (((br w4).alloc (Nat.le_refl _) _).alloc (by simp) _) 1)) (by simp; omega) (by simp; omega) ?_; intro v1 w5 hown1 hbel1 hfar1; have hfB1 : Below w4.heap.size w4 w5 := (bn (((br w4).alloc (Nat.le_refl _) _).alloc (by simp) _) 1).trans hbel1; have hown1 : OwnC w5 w4.heap.size v1 xs := hown1; have hrd := Lib.hid (far_rd _ hbel1 hfar1 (w4.heap.size + 1) (rd_dr (rd1a _ cf ct cp _ (w4.heap.size + 1) (by simp))) (by simp [Value.ownBlock]))))
        | ((refine step_app (by rfl) (.tmp 79) (.tmp 80) (by rfl) w4.heap.size _ [] (by rfl) (own0 (w4.alloc _) _ (w4.heap.size + 1) (by simp) (by omega)).drew _ xs (by rfl) (R4.out.below (bn (((br w4).alloc (Nat.le_refl _) _).alloc (by simp) _) 1)) (by simp; omega) (by simp; omega) ?_; intro v1 w5 hown1 hbel1 hfar1; have hfB1 : Below w4.heap.size w4 w5 := (bn (((br w4).alloc (Nat.le_refl _) _).alloc (by simp) _) 1).trans hbel1; have hown1 : OwnC w5 w4.heap.size v1 xs := hown1; have hrd := Lib.hid (far_rd _ hbel1 hfar1 w4.heap.size (rd_dr ((rd1a w4 cf ct cp _ w4.heap.size rfl).below ((br _).alloc (Nat.le_refl _) _))) (by simp [Value.ownBlock]))))
        | ((refine step_app (by rfl) (.tmp 81) (.tmp 83) (by rfl) w4.heap.size _ xs (by rfl) hown1 _ [(cf, ct, cp)] (by rfl) hrd.out (by simp; omega) hfB1.size ?_; intro v2 w5' hown2 hbel2 hfar2; have hfB2 : Below w4.heap.size w4 w5' := hfB1.trans hbel2))
        | ((refine step_app (by rfl) (.tmp 81) (.tmp 83) (by rfl) w4.heap.size _ xs (by rfl) (hown1.alloc _) _ [(cf, ct, cp)] (by rfl) (rd1a w5 cf ct cp _ w5.heap.size rfl) (by simp; omega) (by have := hfB1.size; simp; omega) ?_; intro v2 w5' hown2 hbel2 hfar2; have hfB2 : Below w4.heap.size w4 w5' := (hfB1.alloc hfB1.size _).trans hbel2)))
    all_goals
      have m2 := kp hfB3 k2
      have HB6 := Lib.hid (bt HB4.out hfB3)
      clear hown1 hown2 hbel1 hbel2 hfar1 hfar2 hfB1 hfB2 hfB3 hb6 k0 k1 k2
      by_cases g0 : g = 0
      · by_cases h0 : h = 0
        · have pm := PM.out g0 h0
          subst g0; subst h0
          obtain ⟨r1, r2⟩ := pm.1 ⟨i1, i2⟩
          go_wp2
          go_ret
          exact ⟨by first | rfl | (simp; done) | simp_all, HB6.out⟩
        · have hb : (h != 0) = true := by simp [h0]
          subst g0
          go_wp2
          go_ret
          exact ⟨by first | rfl | (simp; done) | simp_all, HB6.out⟩
      · have hb : (g != 0) = true := by simp [g0]
        go_wp2
        go_ret
        exact ⟨by first | rfl | (simp; done) | simp_all, HB6.out⟩
  · have hb0 : (f == 0) = false := by simp [j1]
    have hb2 : (f == 2) = false := by simp [j2]
    go_enter Try.func6, Try.ntmps6

    go_wp2_with fail
    refine (N1.out _).mono ?_
    rintro en w1 ⟨rfl, hb_w1⟩
    have n_w1 := bt ((br _).alloc (Nat.le_refl _) _) hb_w1
    have H_w1 := n_w1
    have k_w1 := boxc (bx hb_w1)
    have l_w1 := boxs (bx hb_w1)
    go_wp2_with fail
    refine (pbegun_any _).mono ?_
    rintro en w2 ⟨rfl, hb_w2⟩
    have n_w2 := bt ((br _).alloc (Nat.le_refl _) _) hb_w2
    have H_w2 := bt H_w1 n_w2
    have k_w1 := kc n_w2 l_w1 k_w1
    have l_w1 := kl n_w2 l_w1
    have k_w2 := boxc (bx hb_w2)
    have l_w2 := boxs (bx hb_w2)
    go_wp2_with fail
    refine (N2.out _).mono ?_
    rintro en w3 ⟨rfl, hb_w3⟩
    have n_w3 := hb_w3
    have H_w3 := bt H_w2 n_w3
    have k_w1 := kc n_w3 l_w1 k_w1
    have l_w1 := kl n_w3 l_w1
    have k_w2 := kc n_w3 l_w2 k_w2
    have l_w2 := kl n_w3 l_w2
    go_wp2_with fail
    have c0 := k_w1 0; have c1 := k_w1 1; have c2 := k_w1 2; have d0 := k_w2 0; have d1 := k_w2 1
    simp only [List.getElem?_toArray, List.getElem?_cons_zero, List.getElem?_cons_succ] at c0 c1 c2 d0 d1
    go_wp2_with fail
    refine (N3.out _ (HL.out.below H_w3)).mono ?_
    rintro en w4 ⟨rfl, hb4⟩
    have k0 := kp hb4 c0; have k1 := kp hb4 c1; have k2 := kp hb4 c2
    have HB4 := Lib.hid (bt H_w3 hb4)
    have R4 := Lib.hid (HL.out.below (bt H_w3 hb4))
    clear c0 c1 c2 d0 d1 k_w1 k_w2 l_w1 l_w2 hb_w1 hb_w2 hb_w3 n_w1 n_w2 n_w3 H_w1 H_w2 H_w3 hb4
    go_wp2_with fail
    go_region_held3 (fun w' => w'.cell? ⟨w.heap.size, 0, none⟩ = some (.int .i64 cf) ∧ w'.cell? ⟨w.heap.size, 1, none⟩ = some (.int .i64 ct) ∧ w'.cell? ⟨w.heap.size, 2, none⟩ = some (.int .i64 cp))
      (first
        | go_keep
        | (go_split_ands; exact ⟨kp hfB3 k0, kp hfB3 k1, kp hfB3 k2⟩)
        | (go_split_ands; exact ⟨kp hfB2 k0, kp hfB2 k1, kp hfB2 k2⟩)
        | (go_split_ands; exact ⟨kp hfB1 k0, kp hfB1 k1, kp hfB1 k2⟩))
      (first
        | (go_at_call 15; (with_reducible refine (N4.out _ _ hown2.rd).mono ?_); rintro en w6 ⟨rfl, hb6⟩; have hfB3 : Below w4.heap.size w4 w6 := bt hfB2 hb6)
        | ((refine step_app (by rfl) (.tmp 79) (.tmp 80) (by rfl) w4.heap.size _ [] (by rfl) (own0 w4 _ w4.heap.size rfl (Nat.le_refl _)).drew _ xs (by rfl) (R4.out.below (bn ((br w4).alloc (Nat.le_refl _) _) 1)) (by simp; omega) (by simp) ?_; intro v1 w5 hown1 hbel1 hfar1; have hfB1 : Below w4.heap.size w4 w5 := (bn ((br w4).alloc (Nat.le_refl _) _) 1).trans hbel1; have hown1 : OwnC w5 w4.heap.size v1 xs := hown1))
        | ((refine step_app (by rfl) (.tmp 79) (.tmp 80) (by rfl) w4.heap.size _ [] (by rfl) ((own0 w4 _ w4.heap.size rfl (Nat.le_refl _)).alloc _).drew _ xs (by rfl) (R4.out.below (bn (((br w4).alloc (Nat.le_refl _) _).alloc (by simp) _) 1)) (by simp; omega) (by simp; omega) ?_; intro v1 w5 hown1 hbel1 hfar1; have hfB1 : Below w4.heap.size w4 w5 := (bn (((br w4).alloc (Nat.le_refl _) _).alloc (by simp) _) 1).trans hbel1; have hown1 : OwnC w5 w4.heap.size v1 xs := hown1; have hrd := Lib.hid (far_rd _ hbel1 hfar1 (w4.heap.size + 1) (rd_dr (rd1a _ cf ct cp _ (w4.heap.size + 1) (by simp))) (by simp [Value.ownBlock]))))
        | ((refine step_app (by rfl) (.tmp 79) (.tmp 80) (by rfl) w4.heap.size _ [] (by rfl) (own0 (w4.alloc _) _ (w4.heap.size + 1) (by simp) (by omega)).drew _ xs (by rfl) (R4.out.below (bn (((br w4).alloc (Nat.le_refl _) _).alloc (by simp) _) 1)) (by simp; omega) (by simp; omega) ?_; intro v1 w5 hown1 hbel1 hfar1; have hfB1 : Below w4.heap.size w4 w5 := (bn (((br w4).alloc (Nat.le_refl _) _).alloc (by simp) _) 1).trans hbel1; have hown1 : OwnC w5 w4.heap.size v1 xs := hown1; have hrd := Lib.hid (far_rd _ hbel1 hfar1 w4.heap.size (rd_dr ((rd1a w4 cf ct cp _ w4.heap.size rfl).below ((br _).alloc (Nat.le_refl _) _))) (by simp [Value.ownBlock]))))
        | ((refine step_app (by rfl) (.tmp 81) (.tmp 83) (by rfl) w4.heap.size _ xs (by rfl) hown1 _ [(cf, ct, cp)] (by rfl) hrd.out (by simp; omega) hfB1.size ?_; intro v2 w5' hown2 hbel2 hfar2; have hfB2 : Below w4.heap.size w4 w5' := hfB1.trans hbel2))
        | ((refine step_app (by rfl) (.tmp 81) (.tmp 83) (by rfl) w4.heap.size _ xs (by rfl) (hown1.alloc _) _ [(cf, ct, cp)] (by rfl) (rd1a w5 cf ct cp _ w5.heap.size rfl) (by simp; omega) (by have := hfB1.size; simp; omega) ?_; intro v2 w5' hown2 hbel2 hfar2; have hfB2 : Below w4.heap.size w4 w5' := (hfB1.alloc hfB1.size _).trans hbel2)))
    all_goals
      have m2 := kp hfB3 k2
      have HB6 := Lib.hid (bt HB4.out hfB3)
      clear hown1 hown2 hbel1 hbel2 hfar1 hfar2 hfB1 hfB2 hfB3 hb6 k0 k1 k2
      by_cases g0 : g = 0
      · by_cases h0 : h = 0
        · have pm := PM.out g0 h0
          subst g0; subst h0
          obtain ⟨r1, r2⟩ := pm.1 ⟨i1, i2⟩
          go_wp2
          go_ret
          exact ⟨by first | rfl | (simp; done) | simp_all, HB6.out⟩
        · have hb : (h != 0) = true := by simp [h0]
          subst g0
          go_wp2
          go_ret
          exact ⟨by first | rfl | (simp; done) | simp_all, HB6.out⟩
      · have hb : (g != 0) = true := by simp [g0]
        go_wp2
        go_ret
        exact ⟨by first | rfl | (simp; done) | simp_all, HB6.out⟩
end Dt
end Go.Proofs.Ytalmjeigfhjhfaa
