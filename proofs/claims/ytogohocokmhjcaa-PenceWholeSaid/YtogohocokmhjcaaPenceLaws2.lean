/- The laws on amounts without the document's answer. -/
import Derived.Test.YtogohocokmhjcaaPenceLaws
set_option linter.unusedVariables false
namespace Go.Proofs.Ytogohocokmhjcaa
open Go.RowKit
namespace Pn
/-- a part that was told -/
theorem part_cases (p num den way : Int) : ((part p num den way).2 ≠ 0 ∧ (part p num den way).1 = 0) ∨ (isA p ∧ okW way ∧ okN num den ∧ part p num den way = (val p num den way, 0) ∧ isA (val p num den way)) := by
  by_cases h : (part p num den way).2 = 0
  · obtain ⟨a, b, c, d, e⟩ := part_ok h
    exact .inr ⟨a, b, c, by rw [← d, ← h], e⟩
  · exact .inl ⟨h, part_zero h⟩
theorem part_bad_eq {p num den way : Int} (h : (part p num den way).2 ≠ 0 ∧ (part p num den way).1 = 0) : ∃ e : Int, part p num den way = (0, e) ∧ e ≠ 0 :=
  ⟨_, by rw [← h.2], h.1⟩
set_option maxHeartbeats 1000000 in
theorem near_core (p num den way n x y : Int) (w : World) (E : RowKit.Hid (part p num den way = (n, 0))) (hp : isA p) (hw : 1 ≤ way ∧ way ≤ 4) (hd : 1 ≤ den ∧ den ≤ 100000) (ha : isA n)
    (e1 : n * den = x) (e2 : p * num = y) (x0 : -110000000000000000 ≤ x ∧ x ≤ 110000000000000000) (y0 : -110000000000000000 ≤ y ∧ y ≤ 110000000000000000)
    (o1 : -den < x - y) (o2 : x - y < den) (o3 : 3 ≤ way → -den ≤ 2 * (x - y) ∧ 2 * (x - y) ≤ den) (o4 : way = 1 → (0 ≤ p → x ≤ y) ∧ (p < 0 → y ≤ x)) (o5 : way = 2 → (0 ≤ p → y ≤ x) ∧ (p < 0 → x ≤ y)) :
    Calls Try.prog 6 #[.int .i64 p, .int .i64 num, .int .i64 den, .int .i64 way] w fun e w' => e = .returned (.bool true) ∧ Below w.heap.size w w' := by
  have s1 : IntKind.i64.wrap x = x := IntWalk.i64_in _ (by omega)
  have s2 : IntKind.i64.wrap y = y := IntWalk.i64_in _ (by omega)
  unfold isA at hp ha
  have O3 := Lib.hid o3; have O4 := Lib.hid o4; have O5 := Lib.hid o5
  clear o3 o4 o5
  go_enter Try.func6, Try.ntmps6
  go_wp2_with fail
  refine (part_any p num den way _).mono ?_
  rintro en w1 ⟨rfl, hb1⟩
  rw [E.out]
  go_wp2_with fail
  refine (begun_any _).mono ?_
  rintro en w2 ⟨rfl, hb2⟩
  have o3 := O3.out; have o4 := O4.out; have o5 := O5.out
  clear O3 O4 O5
  go_wp2
  all_goals
    go_ret
    refine ⟨?_, bt hb1 hb2⟩
    first | rfl | (simp; done) | (simp; omega)
theorem bnds {a num : Int} (h0 : -1099511627776 ≤ a ∧ a ≤ 1099511627776) (hn : 0 ≤ num ∧ num ≤ 100000) : -110000000000000000 ≤ a * num ∧ a * num ≤ 110000000000000000 := by
  by_cases h : 0 ≤ a
  · have l1 := Int.mul_nonneg h hn.1
    have l2 : a * num ≤ a * 100000 := Int.mul_le_mul_of_nonneg_left hn.2 h
    exact ⟨by omega, by omega⟩
  · have l1 := Int.mul_nonneg (show 0 ≤ -a by omega) hn.1
    have l2 : -a * num ≤ -a * 100000 := Int.mul_le_mul_of_nonneg_left hn.2 (by omega)
    rw [Int.neg_mul] at l1 l2
    exact ⟨by omega, by omega⟩
theorem near_walk (p num den way : Int) (w : World) : Calls Try.prog 6 #[.int .i64 p, .int .i64 num, .int .i64 den, .int .i64 way] w fun e w' => e = .returned (.bool true) ∧ Below w.heap.size w w' := by
  rcases part_cases p num den way with h | ⟨hp, hw, hn, he, ha⟩
  · obtain ⟨er, he, hne⟩ := part_bad_eq h
    have hb : (er != 0) = true := by simp [hne]
    have E := Lib.hid he
    clear he h hne
    go_enter Try.func6, Try.ntmps6
    go_wp2_with fail
    refine (part_any p num den way _).mono ?_
    rintro en w1 ⟨rfl, hb1⟩
    rw [E.out]
    go_wp2_with fail
    refine (begun_any _).mono ?_
    rintro en w2 ⟨rfl, hb2⟩
    go_wp2
    go_ret
    exact ⟨by first | rfl | simp, bt hb1 hb2⟩
  · obtain ⟨o12, o3, o4, o5⟩ := near_law p num den way hw hn
    obtain ⟨hn0, hn1, hd0, hd1⟩ := hn
    exact near_core p num den way (val p num den way) _ _ w (Lib.hid he) hp hw ⟨hd0, hd1⟩ ha rfl rfl (bnds ha ⟨by omega, hd1⟩) (bnds hp ⟨hn0, hn1⟩) o12.1 o12.2 o3 (fun h => ⟨fun g => by have := (o4 h).1 g; omega, fun g => by have := (o4 h).2 g; omega⟩) (fun h => ⟨fun g => by have := (o5 h).1 g; omega, fun g => by have := (o5 h).2 g; omega⟩)
set_option maxHeartbeats 1000000 in
theorem rises_walk (a b num den way : Int) (w : World) : Calls Try.prog 7 #[.int .i64 a, .int .i64 b, .int .i64 num, .int .i64 den, .int .i64 way] w fun e w' => e = .returned (.bool true) ∧ Below w.heap.size w w' := by
  rcases part_cases a num den way with h | ⟨hp, hw, hn, he, ha⟩
  · obtain ⟨er, he, hne⟩ := part_bad_eq h
    have hb : (er != 0) = true := by simp [hne]
    have E := Lib.hid he
    clear he h hne
    go_enter Try.func7, Try.ntmps7
    go_wp2_with fail
    refine (part_any a num den way _).mono ?_
    rintro en w1 ⟨rfl, hb1⟩
    rw [E.out]
    go_wp2_with fail
    refine (part_any b num den way _).mono ?_
    rintro en w2 ⟨rfl, hb2⟩
    go_wp2_with fail
    refine (begun_any _).mono ?_
    rintro en w3 ⟨rfl, hb3⟩
    go_wp2
    go_ret
    exact ⟨by first | rfl | simp, bt (bt hb1 hb2) hb3⟩
  · have hm : part (-a) num den way = (-(val a num den way), 0) := by
      have h1 : isA (-a) := by unfold isA at hp ⊢; omega
      rw [part_eq h1 hw hn, val_neg _ _ _ _ hn.2.2.1]
      unfold told; rw [if_pos (by unfold isA at ha ⊢; omega)]
    have hmono : a ≤ b → val a num den way ≤ val b num den way := fun h => val_mono a b num den way h hn.1 hn.2.2.1
    obtain ⟨N, hN⟩ : ∃ N, val a num den way = N := ⟨_, rfl⟩
    rw [hN] at he hm ha hmono
    have E := Lib.hid he; have M := Lib.hid hm
    unfold isA at hp ha
    rcases part_cases b num den way with h | ⟨hp2, _, _, he2, ha2⟩
    · obtain ⟨er, he2, hne⟩ := part_bad_eq h
      have hb : (er != 0) = true := by simp [hne]
      have E2 := Lib.hid he2
      clear he he2 h hne hm hmono hN hw hn
      go_enter Try.func7, Try.ntmps7
      go_wp2_with fail
      refine (part_any a num den way _).mono ?_
      rintro en w1 ⟨rfl, hb1⟩
      rw [E.out]
      go_wp2_with fail
      refine (part_any b num den way _).mono ?_
      rintro en w2 ⟨rfl, hb2⟩
      rw [E2.out]
      go_wp2_with fail
      refine (begun_any _).mono ?_
      rintro en w3 ⟨rfl, hb3⟩
      go_wp2_with fail
      refine (part_any (-a) num den way _).mono ?_
      rintro en w4 ⟨rfl, hb4⟩
      rw [M.out]
      go_wp2
      go_ret
      exact ⟨by first | rfl | simp, bt (bt (bt hb1 hb2) hb3) hb4⟩
    · obtain ⟨N2, hN2⟩ : ∃ N2, val b num den way = N2 := ⟨_, rfl⟩
      rw [hN2] at he2 ha2 hmono
      have E2 := Lib.hid he2; have MO := Lib.hid hmono
      unfold isA at hp2 ha2
      clear he he2 hm hmono hN hN2 hw hn
      go_enter Try.func7, Try.ntmps7
      go_wp2_with fail
      refine (part_any a num den way _).mono ?_
      rintro en w1 ⟨rfl, hb1⟩
      rw [E.out]
      go_wp2_with fail
      refine (part_any b num den way _).mono ?_
      rintro en w2 ⟨rfl, hb2⟩
      rw [E2.out]
      go_wp2_with fail
      refine (begun_any _).mono ?_
      rintro en w3 ⟨rfl, hb3⟩
      go_wp2_with fail
      refine (part_any (-a) num den way _).mono ?_
      rintro en w4 ⟨rfl, hb4⟩
      rw [M.out]
      have hmono := MO.out
      go_wp2
      all_goals
        go_ret
        refine ⟨?_, bt (bt (bt hb1 hb2) hb3) hb4⟩
        first | rfl | (simp; done) | (simp; omega)
end Pn
end Go.Proofs.Ytogohocokmhjcaa
