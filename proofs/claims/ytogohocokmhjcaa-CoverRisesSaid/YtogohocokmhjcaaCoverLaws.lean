/- No choice of offers is cheaper; a plan covers the days. -/
import Derived.Test.YtogohocokmhjcaaCoverBought
set_option linter.unusedVariables false
namespace Go.Proofs.Ytogohocokmhjcaa
open Go.RowKit
namespace Cv
theorem least_law {xs : List Offer} (ok : Ok xs) (a often : List Int) (n : Nat) (hn : n ≤ 400) (k : Nat) (h : ∀ j, j < k → okB xs a often j) : best xs n ≤ sumP xs a often k + best xs (n - (sumD xs a often k).toNat) := by
  induction k with
  | zero => simp [sumD, sumP]
  | succ k ih =>
    have i := ih (fun j hj => h j (by omega))
    have hk := h k (by omega)
    have hb := bought_bd ok a often k (fun j hj => h j (by omega))
    have hlt : (a.getD k 0).toNat < xs.length := by unfold okB at hk; omega
    have hof : oAt xs a k = xs[(a.getD k 0).toNat] := by
      unfold oAt; rw [List.getD_eq_getElem?_getD, List.getElem?_eq_getElem hlt]; rfl
    have hmem : oAt xs a k ∈ xs := by rw [hof]; exact List.getElem_mem hlt
    have hoo := ok.all _ hmem
    obtain ⟨N, hN⟩ : ∃ N : Nat, nAt often k = N := ⟨(nAt often k).toNat, by unfold okB at hk; omega⟩
    have ht := best_times ok _ hmem N (n - (sumD xs a often k).toNat) (by omega)
    simp only [sumD, sumP, hN]
    have e1 : ((N : Int) * (oAt xs a k).1).toNat = N * (oAt xs a k).1.toNat := by
      obtain ⟨d, hd⟩ : ∃ d : Nat, (oAt xs a k).1 = d := ⟨(oAt xs a k).1.toNat, by unfold okO at hoo; omega⟩
      rw [hd, Int.toNat_natCast, ← Int.natCast_mul, Int.toNat_natCast]
    have e2 : (sumD xs a often k + (N : Int) * (oAt xs a k).1).toNat = (sumD xs a often k).toNat + N * (oAt xs a k).1.toNat := by
      rw [Int.toNat_add hb.1 (Int.mul_nonneg (by omega) (by unfold okO at hoo; omega)), e1]
    rw [e2, show n - ((sumD xs a often k).toNat + N * (oAt xs a k).1.toNat) = n - (sumD xs a often k).toNat - N * (oAt xs a k).1.toNat by omega]
    omega
theorem best_cases (xs : List Offer) (d : Int) : (∃ c : Int, bestF xs d = (0, c) ∧ c ≠ 0 ∧ readyF xs d = c) ∨ (∃ n : Nat, d = n ∧ n ≤ 400 ∧ Ok xs ∧ xs.length ≤ 8 ∧ bestF xs d = (best xs n, 0) ∧ readyF xs d = 0) := by
  by_cases h : readyF xs d = 0
  · obtain ⟨hc, n, rfl, hn⟩ := ready_ok h
    refine .inr ⟨n, rfl, hn, (check_ok hc).2, (check_ok hc).1, ?_, h⟩
    unfold bestF; rw [h]; simp
  · exact .inl ⟨readyF xs d, by unfold bestF; rw [if_pos h], h, rfl⟩
set_option maxHeartbeats 2000000 in
theorem least_walk (v : Value) (xs : List Offer) (d : Int) (u t : Value) (a often : List Int) (w : World) (h : Rd 2 eO w v xs) (ha : Rd 1 eI w u a) (hf : Rd 1 eI w t often) :
    Calls Try.prog 11 #[v, .int .i64 d, u, t] w fun e w' => e = .returned (.bool true) ∧ Below w.heap.size w w' := by
  have H := Lib.hid h; have HA := Lib.hid ha; have HF := Lib.hid hf
  have hle2 := ha.len_le
  obtain ⟨ad, cap, rfl, h1, h2, h3⟩ := h
  obtain ⟨ad2, cap2, rfl, g1, g2, g3⟩ := ha
  obtain ⟨ad3, cap3, rfl, f1, f2, f3⟩ := hf
  clear h3 g3 f3
  rcases best_cases xs d with ⟨c, hb, hc, _⟩ | ⟨n, rfl, hn, ok, hl8, hb, _⟩
  · have HB := Lib.hid hb
    have hc1 : (c != 0) = true := by simp [hc]
    have hc2 : (c == 0) = false := by simp [hc]
    clear hb hc
    go_enter Try.func11, Try.ntmps11
    go_wp2_with fail
    refine (best_any _ xs d _ H.out).mono ?_
    rintro en w1 ⟨rfl, hb1⟩
    rw [HB.out]
    go_wp2_with fail
    refine (cbegun_any _).mono ?_
    rintro en w2 ⟨rfl, hb2⟩
    go_wp2
    go_ret
    exact ⟨by first | rfl | simp, bt hb1 hb2⟩
  · have HB := Lib.hid hb; have OK := Lib.hid ok
    clear hb
    by_cases hal : a.length ≤ 1000
    · have key : (bought xs a often = (0, 0, false)) ∨ ∃ D P : Int, bought xs a often = (D, P, true) ∧ (D < n ∨ ((n : Int) ≤ D ∧ best xs n ≤ P)) := by
        by_cases hall : ∀ k, k < a.length → okB xs a often k
        · refine .inr ⟨_, _, by unfold bought; rw [if_pos (show allB xs a often = true from decide_eq_true hall)], ?_⟩
          have hl := least_law ok a often n hn a.length hall
          by_cases hd : sumD xs a often a.length < n
          · exact .inl hd
          · refine .inr ⟨by omega, ?_⟩
            rw [show n - (sumD xs a often a.length).toNat = 0 by omega, best_zero] at hl
            omega
        · refine .inl ?_
          unfold bought; rw [if_neg (by rw [show allB xs a often = false from decide_eq_false hall]; simp)]
      clear ok
      rcases key with hk | ⟨D, P, hk, hk2⟩
      · have HK := Lib.hid hk; clear hk
        go_enter Try.func11, Try.ntmps11
        go_wp2_with fail
        refine (best_any _ xs n _ H.out).mono ?_
        rintro en w1 ⟨rfl, hb1⟩
        rw [HB.out]
        have R1 := Lib.hid (H.out.below hb1); have A1 := Lib.hid (HA.out.below hb1); have F1 := Lib.hid (HF.out.below hb1)
        go_wp2_with fail
        refine (cbegun_any _).mono ?_
        rintro en w2 ⟨rfl, hb2⟩
        have R2 := Lib.hid (R1.out.below hb2); have A2 := Lib.hid (A1.out.below hb2); have F2 := Lib.hid (F1.out.below hb2)
        go_wp2_with fail
        refine (bought_any _ _ _ xs a often _ R2.out OK.out hl8 A2.out hal F2.out).mono ?_
        rintro en w3 ⟨rfl, hb3⟩
        rw [HK.out]
        go_wp2
        go_ret
        exact ⟨by first | rfl | simp, bt (bt hb1 hb2) hb3⟩
      · have HK := Lib.hid hk; clear hk
        generalize best xs n = Bn at *
        rcases hk2 with hk2 | ⟨hk2, hk3⟩
        all_goals
          go_enter Try.func11, Try.ntmps11
          go_wp2_with fail
          refine (best_any _ xs n _ H.out).mono ?_
          rintro en w1 ⟨rfl, hb1⟩
          rw [HB.out]
          have R1 := Lib.hid (H.out.below hb1); have A1 := Lib.hid (HA.out.below hb1); have F1 := Lib.hid (HF.out.below hb1)
          go_wp2_with fail
          refine (cbegun_any _).mono ?_
          rintro en w2 ⟨rfl, hb2⟩
          have R2 := Lib.hid (R1.out.below hb2); have A2 := Lib.hid (A1.out.below hb2); have F2 := Lib.hid (F1.out.below hb2)
          go_wp2_with fail
          refine (bought_any _ _ _ xs a often _ R2.out OK.out hl8 A2.out hal F2.out).mono ?_
          rintro en w3 ⟨rfl, hb3⟩
          rw [HK.out]
          go_wp2
          go_ret
          exact ⟨by first | rfl | (simp; done) | (simp; omega), bt (bt hb1 hb2) hb3⟩
    · clear ok
      go_enter Try.func11, Try.ntmps11
      go_wp2_with fail
      refine (best_any _ xs n _ H.out).mono ?_
      rintro en w1 ⟨rfl, hb1⟩
      rw [HB.out]
      go_wp2_with fail
      refine (cbegun_any _).mono ?_
      rintro en w2 ⟨rfl, hb2⟩
      go_wp2
      go_ret
      exact ⟨by first | rfl | simp, bt hb1 hb2⟩
/-! ### plans -/
theorem okB_cons (xs : List Offer) (x : Int) (a : List Int) (j : Nat) : okB xs (x :: a) [] (j + 1) ↔ okB xs a [] j := by
  unfold okB nAt; simp
theorem sumD_cons (xs : List Offer) (x : Int) (a : List Int) (k : Nat) : sumD xs (x :: a) [] (k + 1) = (xs.getD x.toNat (0, 0)).1 + sumD xs a [] k := by
  induction k with
  | zero => simp [sumD, nAt, oAt]
  | succ k ih =>
    rw [sumD, ih]
    simp only [sumD, nAt, oAt]
    simp; omega
theorem sumP_cons (xs : List Offer) (x : Int) (a : List Int) (k : Nat) : sumP xs (x :: a) [] (k + 1) = (xs.getD x.toNat (0, 0)).2 + sumP xs a [] k := by
  induction k with
  | zero => simp [sumP, nAt, oAt]
  | succ k ih =>
    rw [sumP, ih]
    simp only [sumP, nAt, oAt]
    simp; omega
theorem plan_law {xs : List Offer} (ok : Ok xs) : ∀ n : Nat, n ≤ 400 → (∀ j, j < (planL xs n).length → okB xs (planL xs n) [] j) ∧ (n : Int) ≤ sumD xs (planL xs n) [] (planL xs n).length ∧
    sumP xs (planL xs n) [] (planL xs n).length = best xs n ∧ (0 < n → 0 < (planL xs n).length ∧ sumD xs (planL xs n) [] ((planL xs n).length - 1) < n) := by
  intro n
  induction n using Nat.strongRecOn with
  | ind n ih =>
    intro hn
    by_cases h0 : n = 0
    · subst h0; simp [planL_zero, sumD, sumP, best_zero]
    · have hst := planL_step ok n (by omega) hn
      have hlt := pick_lt ok n (by omega) hn
      have hfit := pick_fits ok n (by omega) hn
      have hdp := days_pos ok n (by omega) hn
      have hge : xs.getD (pick xs n) (0, 0) = xs[pick xs n] := by rw [List.getD_eq_getElem?_getD, List.getElem?_eq_getElem hlt]; rfl
      have hda : daysAt xs (pick xs n) = (xs[pick xs n]).1.toNat := by unfold daysAt; rw [hge]
      have hoo := ok.all _ (List.getElem_mem hlt)
      obtain ⟨i1, i2, i3, i4⟩ := ih (n - daysAt xs (pick xs n)) (by omega) (by omega)
      have hfe : (xs[pick xs n]).2 + best xs (n - (xs[pick xs n]).1.toNat) = best xs n := of_decide_eq_true hfit
      rw [hda] at hst hdp i1 i2 i3 i4
      have hLz : n - (xs[pick xs n]).1.toNat = 0 → planL xs (n - (xs[pick xs n]).1.toNat) = [] := fun hz => by rw [hz]; rfl
      generalize planL xs (n - (xs[pick xs n]).1.toNat) = L at *
      rw [hst]
      refine ⟨fun j hj => ?_, ?_, ?_, fun _ => ⟨by simp, ?_⟩⟩
      · match j with
        | 0 => unfold okB nAt; simp; omega
        | j + 1 => rw [okB_cons]; exact i1 j (by simpa using hj)
      · rw [List.length_cons, sumD_cons, Int.toNat_natCast, hge]; unfold okO at hoo; omega
      · rw [List.length_cons, sumP_cons, Int.toNat_natCast, hge, i3]; exact hfe
      · rw [List.length_cons, Nat.add_sub_cancel]
        by_cases hz : n - (xs[pick xs n]).1.toNat = 0
        · have hL := hLz hz
          rw [hL]; simp [sumD]; omega
        · have := i4 (by omega)
          obtain ⟨m, hm⟩ : ∃ m, L.length = m + 1 := ⟨L.length - 1, by omega⟩
          rw [hm, sumD_cons, Int.toNat_natCast, hge]
          rw [hm] at this
          unfold okO at hoo
          simp at this; omega
theorem getD_take (a : List Int) (m k : Nat) (h : k < m) : (a.take m).getD k 0 = a.getD k 0 := by
  simp [List.getD_eq_getElem?_getD, List.getElem?_take, h]
theorem sumD_take (xs : List Offer) (a : List Int) (m : Nat) (hm : m ≤ a.length) : ∀ k, k ≤ m → sumD xs (a.take m) [] k = sumD xs a [] k := by
  intro k
  induction k with
  | zero => intro _; rfl
  | succ k ih =>
    intro hk
    simp only [sumD, ih (by omega), oAt]
    rw [getD_take a m k (by omega)]
theorem okB_take (xs : List Offer) (a : List Int) (m j : Nat) (hj : j < m) (h : okB xs a [] j) : okB xs (a.take m) [] j := by
  unfold okB at *
  rw [getD_take a m j hj]
  exact h
theorem planL_le {xs : List Offer} (n : Nat) : (planL xs n).length ≤ n := planG_len xs n n
end Cv
theorem Rd.pre {α : Type} {k : Nat} {enc : α → List Value} {w : World} {a : Option Addr} {n cap : Nat} {xs : List α} (h : Rd k enc w (.slice a n cap) xs) (m : Nat) (hm : m ≤ xs.length) : Rd k enc w (.slice a m cap) (xs.take m) := by
  obtain ⟨a', cap', e, h1, h2, h3⟩ := h
  injection e with e1 e2 e3
  subst e1 e2 e3
  have hl : (xs.take m).length = m := by simp; omega
  refine ⟨a, cap, by rw [hl], by omega, h2, fun hn => ?_⟩
  obtain ⟨b, off, e, hb, hc⟩ := h3 (by omega)
  refine ⟨b, off, e, hb, fun i hi j u hu => ?_⟩
  rw [List.getElem_take] at hu
  exact hc i (by omega) j u hu
namespace Cv
set_option maxHeartbeats 2000000 in
theorem plan_walk (v : Value) (xs : List Offer) (d : Int) (w : World) (h : Rd 2 eO w v xs) : Calls Try.prog 10 #[v, .int .i64 d] w fun e w' => e = .returned (.bool true) ∧ Below w.heap.size w w' := by
  have H := Lib.hid h
  obtain ⟨ad, cap, rfl, h1, h2, h3⟩ := h
  clear h3
  rcases best_cases xs d with ⟨c, hb, hc, hr⟩ | ⟨n, rfl, hn, ok, hl8, hb, hr⟩
  · have HB := Lib.hid hb; have HR := Lib.hid hr
    have hc1 : (c != 0) = true := by simp [hc]
    have hc2 : (c == 0) = false := by simp [hc]
    have hc3 : (c != c) = false := by simp
    have HC := Lib.hid hc
    clear hb hc hr
    go_enter Try.func10, Try.ntmps10
    go_wp2_with fail
    refine (best_any _ xs d _ H.out).mono ?_
    rintro en w1 ⟨rfl, hb1⟩
    rw [HB.out]
    have R1 := Lib.hid (H.out.below hb1)
    go_wp2_with fail
    refine (plan_any _ xs d _ R1.out).mono ?_
    rintro en w2 ⟨p1, L1, rfl, r2, hb2, hL⟩
    rw [HR.out, if_neg HC.out] at hL
    rw [HR.out]
    subst hL
    obtain ⟨pa, pc, rfl, _, _, _⟩ := r2
    go_wp2_with fail
    refine (cbegun_any _).mono ?_
    rintro en w3 ⟨rfl, hb3⟩
    go_wp2
    go_ret
    exact ⟨by first | rfl | simp, bt (bt hb1 hb2) hb3⟩
  · have HB := Lib.hid hb; have OK := Lib.hid ok; have HR := Lib.hid hr
    obtain ⟨l1, l2, l3, l4⟩ := plan_law ok n hn
    have hlen := planL_le (xs := xs) n
    have hbo : bought xs (planL xs n) [] = (sumD xs (planL xs n) [] (planL xs n).length, best xs n, true) := by
      unfold bought; rw [if_pos (show allB xs (planL xs n) [] = true from decide_eq_true l1), l3]
    by_cases h0 : n = 0
    · subst h0
      have hb0 : bought xs (planL xs 0) [] = (0, 0, true) := by rw [hbo]; simp [planL_zero, sumD, best_zero]
      have HO := Lib.hid hb0
      have HB0 := Lib.hid (best_zero xs)
      clear hb hr ok hbo l1 l2 l3 l4 hlen hb0
      go_enter Try.func10, Try.ntmps10
      go_wp2_with fail
      refine (best_any _ xs ((0 : Nat) : Int) _ H.out).mono ?_
      rintro en w1 ⟨rfl, hb1⟩
      rw [HB.out, HB0.out]
      have R1 := Lib.hid (H.out.below hb1)
      go_wp2_with fail
      refine (plan_any _ xs ((0 : Nat) : Int) _ R1.out).mono ?_
      rintro en w2 ⟨p1, L1, rfl, r2, hb2, hL⟩
      rw [HR.out, if_pos rfl, Int.toNat_natCast, planL_zero] at hL
      rw [HR.out]
      subst hL
      have R2 := Lib.hid (R1.out.below hb2)
      have P2 := Lib.hid r2
      obtain ⟨pa, pc, rfl, _, _, _⟩ := r2
      go_wp2_with fail
      refine (cbegun_any _).mono ?_
      rintro en w3 ⟨rfl, hb3⟩
      have R3 := Lib.hid (R2.out.below hb3)
      have P3 := Lib.hid (P2.out.below hb3)
      go_wp2_with fail
      refine (bought_any _ _ _ xs [] [] _ R3.out OK.out hl8 P3.out (by simp) (Rd.nil _)).mono ?_
      rintro en w4 ⟨rfl, hb4⟩
      rw [show bought xs [] [] = (0, 0, true) from HO.out]
      go_wp2
      go_ret
      exact ⟨by first | rfl | simp, bt (bt (bt hb1 hb2) hb3) hb4⟩
    · obtain ⟨l5, l6⟩ := l4 (by omega)
      have hless : bought xs ((planL xs n).take ((planL xs n).length - 1)) [] = (sumD xs (planL xs n) [] ((planL xs n).length - 1), sumP xs ((planL xs n).take ((planL xs n).length - 1)) [] ((planL xs n).length - 1), true) := by
        have e : ((planL xs n).take ((planL xs n).length - 1)).length = (planL xs n).length - 1 := by simp
        unfold bought
        rw [if_pos (show allB xs ((planL xs n).take ((planL xs n).length - 1)) [] = true from decide_eq_true (fun j hj => okB_take xs _ _ j (by omega) (l1 j (by omega)))), e, sumD_take xs _ _ (by omega) _ (Nat.le_refl _)]
      have HO := Lib.hid hbo; have HL := Lib.hid hless
      clear hb hr ok hbo l1 l3 l4 hless
      generalize sumP xs ((planL xs n).take ((planL xs n).length - 1)) [] ((planL xs n).length - 1) = SP at *
      generalize sumD xs (planL xs n) [] ((planL xs n).length - 1) = S1 at *
      generalize sumD xs (planL xs n) [] (planL xs n).length = S2 at *
      go_enter Try.func10, Try.ntmps10
      go_wp2_with fail
      refine (best_any _ xs n _ H.out).mono ?_
      rintro en w1 ⟨rfl, hb1⟩
      rw [HB.out]
      have R1 := Lib.hid (H.out.below hb1)
      go_wp2_with fail
      refine (plan_any _ xs n _ R1.out).mono ?_
      rintro en w2 ⟨p1, L1, rfl, r2, hb2, hL⟩
      rw [HR.out, if_pos rfl, Int.toNat_natCast] at hL
      rw [HR.out]
      rw [← hL] at HO HL hlen l5
      clear hL
      have R2 := Lib.hid (R1.out.below hb2)
      have P2 := Lib.hid r2
      obtain ⟨pa, pc, rfl, p4, p5, _⟩ := r2
      generalize best xs n = Bn at *
      obtain ⟨m, hm⟩ : ∃ m, L1.length = m + 1 := ⟨L1.length - 1, by omega⟩
      rw [hm] at HL p4 hlen l5
      simp only [Nat.add_sub_cancel] at HL
      rw [hm] at P2
      rw [hm]
      have Pp := Lib.hid (P2.out.pre m (by omega))
      have HM := Lib.hid hm
      clear hm
      go_wp2_with fail
      refine (cbegun_any _).mono ?_
      rintro en w3 ⟨rfl, hb3⟩
      have R3 := Lib.hid (R2.out.below hb3)
      have P3 := Lib.hid (P2.out.below hb3)
      have Pp3 := Lib.hid (Pp.out.below hb3)
      go_wp2_with fail
      refine (bought_any _ _ _ xs L1 [] _ R3.out OK.out hl8 P3.out (by have := HM.out; omega) (Rd.nil _)).mono ?_
      rintro en w4 ⟨rfl, hb4⟩
      rw [HO.out]
      have R4 := Lib.hid (R3.out.below hb4)
      have Pp4 := Lib.hid (Pp3.out.below hb4)
      go_wp2_with fail
      refine (bought_any _ _ _ xs (L1.take m) [] _ R4.out OK.out hl8 Pp4.out (by simp; omega) (Rd.nil _)).mono ?_
      rintro en w5 ⟨rfl, hb5⟩
      rw [HL.out]
      go_wp2
      go_ret
      exact ⟨by first | rfl | (simp; done) | (simp; omega), bt (bt (bt (bt hb1 hb2) hb3) hb4) hb5⟩
end Cv
end Go.Proofs.Ytogohocokmhjcaa
