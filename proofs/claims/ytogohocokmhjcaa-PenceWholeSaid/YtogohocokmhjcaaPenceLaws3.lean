/- What comes out even is the same by all ways. -/
import Derived.Test.YtogohocokmhjcaaPenceLaws2
set_option linter.unusedVariables false
namespace Go.Proofs.Ytogohocokmhjcaa
open Go.RowKit
namespace Pn
theorem bnd2 {a n A B : Int} (ha : -A ≤ a ∧ a ≤ A) (hn : 0 ≤ n ∧ n ≤ B) (hA : 0 ≤ A) : -(A * B) ≤ a * n ∧ a * n ≤ A * B := by
  have h0 : A * n ≤ A * B := Int.mul_le_mul_of_nonneg_left hn.2 hA
  have h1 : a * n ≤ A * n := Int.mul_le_mul_of_nonneg_right ha.2 hn.1
  have h2 : -A * n ≤ a * n := Int.mul_le_mul_of_nonneg_right ha.1 hn.1
  rw [Int.neg_mul] at h2
  omega
theorem val_bd (p num den : Int) (hp : -2000000 ≤ p ∧ p ≤ 2000000) (hn : 0 ≤ num ∧ num ≤ 1000) (hd : 1 ≤ den) : -2000000000 ≤ val p num den 1 ∧ val p num den 1 ≤ 2000000000 := by
  have m : ∀ a : Int, 0 ≤ a → a ≤ 2000000 → 0 ≤ mag a num den 1 ∧ mag a num den 1 ≤ 2000000000 := fun a h0 h1 => by
    have e : mag a num den 1 = a * num / den := by simp [mag, upB]
    have b := bnd2 (A := 2000000) (B := 1000) ⟨by omega, h1⟩ hn (by omega)
    have l := Int.mul_nonneg h0 hn.1
    have := Int.ediv_le_self den l
    have := mag_nonneg a num den 1 h0 hn.1 hd
    omega
  unfold val
  split
  · have := m (-p) (by omega) (by omega); omega
  · have := m p (by omega) (by omega); omega
set_option maxHeartbeats 1000000 in
theorem whole_out (p num den a b k : Int) (w : World) (h : p < -1000000 ∨ (-1000000 ≤ p ∧ 1000000 < p) ∨ (-1000000 ≤ p ∧ p ≤ 1000000 ∧ k < -1000) ∨ (-1000000 ≤ p ∧ p ≤ 1000000 ∧ -1000 ≤ k ∧ 1000 < k) ∨ (-1000000 ≤ p ∧ p ≤ 1000000 ∧ -1000 ≤ k ∧ k ≤ 1000 ∧ num < 0) ∨ (-1000000 ≤ p ∧ p ≤ 1000000 ∧ -1000 ≤ k ∧ k ≤ 1000 ∧ 0 ≤ num ∧ 1000 < num) ∨ (-1000000 ≤ p ∧ p ≤ 1000000 ∧ -1000 ≤ k ∧ k ≤ 1000 ∧ 0 ≤ num ∧ num ≤ 1000 ∧ den < 1) ∨ (-1000000 ≤ p ∧ p ≤ 1000000 ∧ -1000 ≤ k ∧ k ≤ 1000 ∧ 0 ≤ num ∧ num ≤ 1000 ∧ 1 ≤ den ∧ 1000 < den)) :
    Calls Try.prog 8 #[.int .i64 p, .int .i64 num, .int .i64 den, .int .i64 a, .int .i64 b, .int .i64 k] w fun e w' => e = .returned (.bool true) ∧ Below w.heap.size w w' := by
  rcases h with g1 | ⟨g1, g2⟩ | ⟨g1, g2, g3⟩ | ⟨g1, g2, g3, g4⟩ | ⟨g1, g2, g3, g4, g5⟩ | ⟨g1, g2, g3, g4, g5, g6⟩ | ⟨g1, g2, g3, g4, g5, g6, g7⟩ | ⟨g1, g2, g3, g4, g5, g6, g7, g8⟩
  all_goals
    go_enter Try.func8, Try.ntmps8
    go_wp2_with fail
    refine (begun_any _).mono ?_
    rintro en w1 ⟨rfl, hb1⟩
    go_wp2
    go_ret
    exact ⟨rfl, hb1⟩
set_option maxHeartbeats 1000000 in
theorem whole_core (p num den a b k pd pn kd kn x y u ea eb v z al : Int) (w : World) (hp : -1000000 ≤ p) (hp' : p ≤ 1000000) (hk : -1000 ≤ k) (hk' : k ≤ 1000) (hn : 0 ≤ num) (hn' : num ≤ 1000) (hd : 1 ≤ den) (hd' : den ≤ 1000)
    (e1 : p * den = pd) (e2 : p * num = pn) (e3 : k * den = kd) (e4 : k * num = kn) (b1 : -1000000000 ≤ pd ∧ pd ≤ 1000000000) (b2 : -1000000000 ≤ pn ∧ pn ≤ 1000000000) (b3 : -1000000 ≤ kd ∧ kd ≤ 1000000) (b4 : -1000000 ≤ kn ∧ kn ≤ 1000000)
    (X : RowKit.Hid (part pd num den a = (x, ea))) (Y : RowKit.Hid (part pd num den b = (y, eb))) (V : RowKit.Hid (part p num den 1 = (v, 0))) (Z : RowKit.Hid (part (p + kd) num den 1 = (z, 0))) (AL : RowKit.Hid (part p den den a = (al, u)))
    (b5 : -2000000000 ≤ v ∧ v ≤ 2000000000)
    (t1 : RowKit.Hid ((ea = 0 ∧ eb = 0 ∧ x = pn ∧ y = pn) ∨ (ea = 7 ∧ eb = 0) ∨ (ea = 0 ∧ eb = 7 ∧ x = pn) ∨ (ea = 7 ∧ eb = 7))) (t2 : RowKit.Hid ((ea = 0 ∧ u = 0 ∧ al = p) ∨ (ea = 7 ∧ u = 7))) (t3 : RowKit.Hid (0 ≤ p → 0 ≤ k → z = v + kn)) :
    Calls Try.prog 8 #[.int .i64 p, .int .i64 num, .int .i64 den, .int .i64 a, .int .i64 b, .int .i64 k] w fun e w' => e = .returned (.bool true) ∧ Below w.heap.size w w' := by
  go_enter Try.func8, Try.ntmps8
  go_wp2_with fail
  refine (begun_any _).mono ?_
  rintro en w1 ⟨rfl, hb1⟩
  go_wp2_with fail
  refine (part_any pd num den a _).mono ?_
  rintro en w2 ⟨rfl, hb2⟩
  rw [X.out]
  go_wp2_with fail
  refine (part_any pd num den b _).mono ?_
  rintro en w3 ⟨rfl, hb3⟩
  rw [Y.out]
  rcases t1.out with ⟨rfl, rfl, rfl, rfl⟩ | ⟨rfl, rfl⟩ | ⟨rfl, rfl, rfl⟩ | ⟨rfl, rfl⟩
  all_goals
    go_wp2_with fail
    refine (part_any p num den 1 _).mono ?_
    rintro en w4 ⟨rfl, hb4⟩
    rw [V.out]
    go_wp2_with fail
    refine (part_any (p + kd) num den 1 _).mono ?_
    rintro en w5 ⟨rfl, hb5⟩
    rw [Z.out]
    go_wp2_with fail
    refine (part_any p den den a _).mono ?_
    rintro en w6 ⟨rfl, hb6⟩
    rw [AL.out]
    have h2 := t2.out
    simp at h2
    have h3 := t3.out
    rcases (show p < 0 ∨ (0 ≤ p ∧ k < 0) ∨ (0 ≤ p ∧ 0 ≤ k ∧ z = v + kn) by omega) with g1 | ⟨g1, g2⟩ | ⟨g1, g2, rfl⟩
    all_goals
      clear h3
      obtain ⟨rfl, h4⟩ | rfl := (show (u = 0 ∧ al = p) ∨ u = 7 by omega)
      all_goals
        clear h2
        try subst h4
        go_wp2
        go_ret
        exact ⟨by first | rfl | (simp; done) | (simp; omega), bt (bt (bt (bt (bt hb1 hb2) hb3) hb4) hb5) hb6⟩
theorem whole_walk (p num den a b k : Int) (w : World) : Calls Try.prog 8 #[.int .i64 p, .int .i64 num, .int .i64 den, .int .i64 a, .int .i64 b, .int .i64 k] w fun e w' => e = .returned (.bool true) ∧ Below w.heap.size w w' := by
  by_cases h : -1000000 ≤ p ∧ p ≤ 1000000 ∧ -1000 ≤ k ∧ k ≤ 1000 ∧ 0 ≤ num ∧ num ≤ 1000 ∧ 1 ≤ den ∧ den ≤ 1000
  · obtain ⟨p0, p1, k0, k1, n0, n1, d0, d1⟩ := h
    have b1 := bnd2 (A := 1000000) (B := 1000) (a := p) (n := den) ⟨by omega, p1⟩ ⟨by omega, d1⟩ (by omega)
    have b2 := bnd2 (A := 1000000) (B := 1000) (a := p) (n := num) ⟨by omega, p1⟩ ⟨by omega, n1⟩ (by omega)
    have b3 := bnd2 (A := 1000) (B := 1000) (a := k) (n := den) ⟨by omega, k1⟩ ⟨by omega, d1⟩ (by omega)
    have b4 := bnd2 (A := 1000) (B := 1000) (a := k) (n := num) ⟨by omega, k1⟩ ⟨by omega, n1⟩ (by omega)
    have hN : okN num den := ⟨n0, by omega, d0, by omega⟩
    have hD : okN den den := ⟨by omega, by omega, d0, by omega⟩
    have w1 : okW 1 := ⟨by omega, by omega⟩
    have v1 := val_bd p num den ⟨by omega, by omega⟩ ⟨n0, n1⟩ d0
    have v2 := val_bd (p + k * den) num den ⟨by omega, by omega⟩ ⟨n0, n1⟩ d0
    have X : ∀ c, okW c → part (p * den) num den c = (p * num, 0) := fun c hc => by
      rw [part_eq (by unfold isA; omega) hc hN, val_even p den num c d0]
      unfold told; rw [if_pos (by unfold isA; omega)]
    have AL : okW a → part p den den a = (p, 0) := fun hc => by
      rw [part_eq (by unfold isA; omega) hc hD, val_all p den a d0]
      unfold told; rw [if_pos (by unfold isA; omega)]
    have V : part p num den 1 = (val p num den 1, 0) := by
      rw [part_eq (by unfold isA; omega) w1 hN]
      unfold told; rw [if_pos (by unfold isA; omega)]
    have Z : part (p + k * den) num den 1 = (val (p + k * den) num den 1, 0) := by
      rw [part_eq (by unfold isA; omega) w1 hN]
      unfold told; rw [if_pos (by unfold isA; omega)]
    have N : ∀ q n d c, isA q → ¬ okW c → part q n d c = (0, 7) := fun q n d c hq hc => by unfold part; rw [if_neg (fun x => x hq), if_pos hc]
    have hA1 : isA (p * den) := by unfold isA; omega
    have hA2 : isA p := by unfold isA; omega
    have t3 : 0 ≤ p → 0 ≤ k → val (p + k * den) num den 1 = val p num den 1 + k * num := fun h1 h2 => val_more p k num den h1 h2 d0
    by_cases ha : okW a
    · by_cases hb : okW b
      · exact whole_core p num den a b k _ _ _ _ _ _ _ _ _ _ _ _ w p0 p1 k0 k1 n0 n1 d0 d1 rfl rfl rfl rfl ⟨by omega, by omega⟩ ⟨by omega, by omega⟩ ⟨by omega, by omega⟩ ⟨by omega, by omega⟩ (Lib.hid (X a ha)) (Lib.hid (X b hb)) (Lib.hid V) (Lib.hid Z) (Lib.hid (AL ha)) v1 (Lib.hid (.inl ⟨rfl, rfl, rfl, rfl⟩)) (Lib.hid (.inl ⟨rfl, rfl, rfl⟩)) (Lib.hid t3)
      · exact whole_core p num den a b k _ _ _ _ _ _ _ _ _ _ _ _ w p0 p1 k0 k1 n0 n1 d0 d1 rfl rfl rfl rfl ⟨by omega, by omega⟩ ⟨by omega, by omega⟩ ⟨by omega, by omega⟩ ⟨by omega, by omega⟩ (Lib.hid (X a ha)) (Lib.hid (N _ _ _ _ hA1 hb)) (Lib.hid V) (Lib.hid Z) (Lib.hid (AL ha)) v1 (Lib.hid (.inr (.inr (.inl ⟨rfl, rfl, rfl⟩)))) (Lib.hid (.inl ⟨rfl, rfl, rfl⟩)) (Lib.hid t3)
    · by_cases hb : okW b
      · exact whole_core p num den a b k _ _ _ _ _ _ _ _ _ _ _ _ w p0 p1 k0 k1 n0 n1 d0 d1 rfl rfl rfl rfl ⟨by omega, by omega⟩ ⟨by omega, by omega⟩ ⟨by omega, by omega⟩ ⟨by omega, by omega⟩ (Lib.hid (N _ _ _ _ hA1 ha)) (Lib.hid (X b hb)) (Lib.hid V) (Lib.hid Z) (Lib.hid (N _ _ _ _ hA2 ha)) v1 (Lib.hid (.inr (.inl ⟨rfl, rfl⟩))) (Lib.hid (.inr ⟨rfl, rfl⟩)) (Lib.hid t3)
      · exact whole_core p num den a b k _ _ _ _ _ _ _ _ _ _ _ _ w p0 p1 k0 k1 n0 n1 d0 d1 rfl rfl rfl rfl ⟨by omega, by omega⟩ ⟨by omega, by omega⟩ ⟨by omega, by omega⟩ ⟨by omega, by omega⟩ (Lib.hid (N _ _ _ _ hA1 ha)) (Lib.hid (N _ _ _ _ hA1 hb)) (Lib.hid V) (Lib.hid Z) (Lib.hid (N _ _ _ _ hA2 ha)) v1 (Lib.hid (.inr (.inr (.inr ⟨rfl, rfl⟩)))) (Lib.hid (.inr ⟨rfl, rfl⟩)) (Lib.hid t3)
  · exact whole_out p num den a b k w (by omega)
end Pn
end Go.Proofs.Ytogohocokmhjcaa
