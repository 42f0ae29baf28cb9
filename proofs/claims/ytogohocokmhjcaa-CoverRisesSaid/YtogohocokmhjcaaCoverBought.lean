/- What must be in any case; offers that are bought. -/
import Derived.Test.YtogohocokmhjcaaCoverPlan2
import Derived.Test.YtogohocokmhjcaaRefund
import Derived.Test.YtogohocokmhjcaaSame
set_option linter.unusedVariables false
namespace Go.Proofs.Ytogohocokmhjcaa
open Go.RowKit
namespace Cv
set_option maxHeartbeats 2000000 in
theorem cbegun_any (w : World) : Calls Try.prog 26 #[] w fun e w' => e = .returned (.bool true) ∧ Below w.heap.size w w' := by
  have E1 := Lib.hid (show bestF offersL 9 = (3000, 0) by decide +kernel)
  have E2 := Lib.hid (show bestF offersL 27 = (6000, 0) by decide +kernel)
  have E3 := Lib.hid (show planL offersL 9 = [0, 0, 1] by decide +kernel)
  have E4 := Lib.hid (show planL offersL 27 = [2] by decide +kernel)
  have E5 := Lib.hid (show bestF [] 1 = (0, 5) by decide +kernel)
  have E6 := Lib.hid (show readyF offersL 9 = 0 by decide +kernel)
  have E7 := Lib.hid (show readyF offersL 27 = 0 by decide +kernel)
  go_enter Try.func26, Try.ntmps26
  go_wp2_with fail
  refine (offers_any _).mono ?_
  rintro en w1 ⟨v1, rfl, r1, hb1⟩
  have R1 := Lib.hid r1; clear r1
  go_wp2_with fail
  refine (best_any v1 offersL 9 _ R1.out).mono ?_
  rintro en w2 ⟨rfl, hb2⟩
  rw [E1.out]
  have H2 := bt hb1 hb2
  go_wp2_with fail
  refine (offers_any _).mono ?_
  rintro en w3 ⟨v3, rfl, r3, hb3⟩
  have R3 := Lib.hid r3; clear r3
  have H3 := bt H2 hb3
  go_wp2_with fail
  refine (plan_any v3 offersL 9 _ R3.out).mono ?_
  rintro en w4 ⟨p1, L1, rfl, r4, hb4, hL1⟩
  rw [E6.out, if_pos rfl, show ((9 : Int).toNat) = 9 from rfl, E3.out] at hL1
  subst hL1
  rw [E6.out]
  have R4 := Lib.hid r4; clear r4
  have H4 := bt H3 hb4
  go_wp2_with fail
  refine (offers_any _).mono ?_
  rintro en w5 ⟨v5, rfl, r5, hb5⟩
  have R5 := Lib.hid r5; clear r5
  have R45 := Lib.hid (R4.out.below hb5)
  have H5 := bt H4 hb5
  go_wp2_with fail
  refine (best_any v5 offersL 27 _ R5.out).mono ?_
  rintro en w6 ⟨rfl, hb6⟩
  rw [E2.out]
  have R46 := Lib.hid (R45.out.below hb6)
  have H6 := bt H5 hb6
  go_wp2_with fail
  refine (offers_any _).mono ?_
  rintro en w7 ⟨v7, rfl, r7, hb7⟩
  have R7 := Lib.hid r7; clear r7
  have R47 := Lib.hid (R46.out.below hb7)
  have H7 := bt H6 hb7
  go_wp2_with fail
  refine (plan_any v7 offersL 27 _ R7.out).mono ?_
  rintro en w8 ⟨p2, L2, rfl, r8, hb8, hL2⟩
  rw [E7.out, if_pos rfl, show ((27 : Int).toNat) = 27 from rfl, E4.out] at hL2
  subst hL2
  rw [E7.out]
  have R8 := Lib.hid r8; clear r8
  have R48 := Lib.hid (R47.out.below hb8)
  have H8 := bt H7 hb8
  go_wp2_with fail
  refine (best_any (.slice none 0 0) [] 1 _ (Rd.nil _)).mono ?_
  rintro en w9 ⟨rfl, hb9⟩
  rw [E5.out]
  have R49 := Lib.hid (R48.out.below hb9)
  have R89 := Lib.hid (R8.out.below hb9)
  have H9 := bt H8 hb9
  go_wp2_with fail
  refine (same_any p1 _ [0, 0, 1] [0, 0, 1] _ (R49.out.below ((br _).alloc (Nat.le_refl _) _)) (Rd.lit [0, 0, 1] _ _ _ (show 3 ≤ maxLen by decide))).mono ?_
  rintro en wa ⟨rfl, hba⟩
  have hba := bt ((br w9).alloc (Nat.le_refl _) _) hba
  have R8a := Lib.hid (R89.out.below hba)
  have Ha := bt H9 hba
  rw [show decide (([0, 0, 1] : List Int) = [0, 0, 1]) = true by decide]
  go_wp2_with fail
  refine (same_any p2 _ [2] [2] _ (R8a.out.below ((br _).alloc (Nat.le_refl _) _)) (Rd.lit [2] _ _ _ (show 1 ≤ maxLen by decide))).mono ?_
  rintro en wb ⟨rfl, hbb⟩
  rw [show decide (([2] : List Int) = [2]) = true by decide]
  go_wp2
  go_ret
  exact ⟨by first | rfl | simp, bt Ha (bt ((br wa).alloc (Nat.le_refl _) _) hbb)⟩
/-! ### offers that are bought -/
def nAt (often : List Int) (k : Nat) : Int := often.getD k 1
def oAt (xs : List Offer) (a : List Int) (k : Nat) : Offer := xs.getD (a.getD k 0).toNat (0, 0)
def okB (xs : List Offer) (a often : List Int) (k : Nat) : Prop := 0 ≤ a.getD k 0 ∧ a.getD k 0 < xs.length ∧ 0 ≤ nAt often k ∧ nAt often k ≤ 1000
instance (xs : List Offer) (a often : List Int) (k : Nat) : Decidable (okB xs a often k) := by unfold okB; exact inferInstance
def sumD (xs : List Offer) (a often : List Int) : Nat → Int
  | 0 => 0
  | k + 1 => sumD xs a often k + nAt often k * (oAt xs a k).1
def sumP (xs : List Offer) (a often : List Int) : Nat → Int
  | 0 => 0
  | k + 1 => sumP xs a often k + nAt often k * (oAt xs a k).2
def allB (xs : List Offer) (a often : List Int) : Bool := decide (∀ k, k < a.length → okB xs a often k)
def bought (xs : List Offer) (a often : List Int) : Int × Int × Bool := if allB xs a often = true then (sumD xs a often a.length, sumP xs a often a.length, true) else (0, 0, false)
theorem bought_bd {xs : List Offer} (ok : Ok xs) (a often : List Int) (k : Nat) (h : ∀ j, j < k → okB xs a often j) : 0 ≤ sumD xs a often k ∧ sumD xs a often k ≤ 400000 * k ∧ 0 ≤ sumP xs a often k ∧ sumP xs a often k ≤ 1000000000 * k := by
  induction k with
  | zero => simp [sumD, sumP]
  | succ k ih =>
    have i := ih (fun j hj => h j (by omega))
    have hk := h k (by omega)
    have ho : okO (oAt xs a k) := by
      have hlt : (a.getD k 0).toNat < xs.length := by unfold okB at hk; omega
      unfold oAt
      rw [List.getD_eq_getElem?_getD, List.getElem?_eq_getElem hlt]
      exact ok.all _ (List.getElem_mem hlt)
    unfold okB at hk; unfold okO at ho
    have p1 := Int.mul_nonneg hk.2.2.1 (show 0 ≤ (oAt xs a k).1 by omega)
    have p2 := Int.mul_nonneg hk.2.2.1 ho.2.2.1
    have p3 : nAt often k * (oAt xs a k).1 ≤ 1000 * 400 := Int.mul_le_mul hk.2.2.2 ho.2.1 (by omega) (by omega)
    have p4 : nAt often k * (oAt xs a k).2 ≤ 1000 * 1000000 := Int.mul_le_mul hk.2.2.2 ho.2.2.2 ho.2.2.1 (by omega)
    simp only [sumD, sumP]
    omega
def BoughtQ (xs : List Offer) (a often : List Int) (w : World) (e : Ending) (w' : World) : Prop :=
  e = .returned (.tuple #[.int .i64 (bought xs a often).1, .int .i64 (bought xs a often).2.1, .bool (bought xs a often).2.2]) ∧ Below w.heap.size w w'
set_option maxHeartbeats 4000000 in
set_option maxRecDepth 100000 in
theorem bought_any (v u t : Value) (xs : List Offer) (a often : List Int) (w : World) (h : Rd 2 eO w v xs) (ok : Ok xs) (hl8 : xs.length ≤ 8) (ha : Rd 1 eI w u a) (hal : a.length ≤ 1000) (hf : Rd 1 eI w t often) :
    Calls Try.prog 30 #[v, u, t] w (BoughtQ xs a often w) := by
  have hle := h.len_le
  have hle2 := hf.len_le
  obtain ⟨ad, cap, rfl, h1, h2, h3⟩ := h
  obtain ⟨ad2, cap2, rfl, g1, g2, g3⟩ := ha
  obtain ⟨ad3, cap3, rfl, f1, f2, f3⟩ := hf
  have H3 := Lib.hid h3; have G3 := Lib.hid g3; have F3 := Lib.hid f3; have OK := Lib.hid ok
  clear h3 g3 f3 ok
  go_enter Try.func30, Try.ntmps30
  go_wp2
  go_loop [9, 10, 11] (fun d p i => ∃ k : Nat, k ≤ a.length ∧ (∀ j, j < k → okB xs a often j) ∧ d = .int .i64 (sumD xs a often k) ∧ p = .int .i64 (sumP xs a often k) ∧ i = .int .i64 k) (fun _ _ i => a.length - (intOf i).toNat)
  case atStart => exact ⟨0, Nat.zero_le _, fun j hj => by omega, rfl, rfl, rfl⟩
  case round =>
    obtain ⟨k, hk, hall, rfl, rfl, rfl⟩ := hrel
    have hbd := bought_bd OK.out a often k hall
    by_cases hlt : k < a.length
    · obtain ⟨b2, off2, rfl, hbl2, hc2⟩ := G3.out (by omega)
      have c2 := eI_at hc2 k hlt
      have hA : a.getD k 0 = a[k] := by rw [List.getD_eq_getElem?_getD, List.getElem?_eq_getElem hlt]; rfl
      obtain ⟨A, hAA⟩ : ∃ A, A = a[k] := ⟨_, rfl⟩
      rw [← hAA] at c2 hA
      -- how often
      have hN : ∃ N : Int, nAt often k = N := ⟨_, rfl⟩
      obtain ⟨N, hN⟩ := hN
      have hdN : okB xs a often k ↔ (0 ≤ A ∧ A < xs.length ∧ 0 ≤ N ∧ N ≤ 1000) := by unfold okB; rw [hA, hN]
      have hsD : sumD xs a often (k + 1) = sumD xs a often k + N * (oAt xs a k).1 := by simp only [sumD]; rw [hN]
      have hsP : sumP xs a often (k + 1) = sumP xs a often k + N * (oAt xs a k).2 := by simp only [sumP]; rw [hN]
      have hno : ¬ okB xs a often k → bought xs a often = (0, 0, false) := fun hx => by
        unfold bought allB
        rw [decide_eq_false (fun x => hx (x k hlt))]; simp
      have hof : oAt xs a k = xs.getD A.toNat (0, 0) := by unfold oAt; rw [hA]
      have hstep : okB xs a often k → ∀ j, j < k + 1 → okB xs a often j := fun hx j hj => by
        by_cases e : j = k
        · subst e; exact hx
        · exact hall j (by omega)
      have hcaseN : (k < often.length ∧ ∃ b3 off3, ad3 = some ⟨b3, off3, none⟩ ∧ w.cell? ⟨b3, off3 + k, none⟩ = some (.int .i64 N)) ∨ (often.length ≤ k ∧ N = 1) := by
        by_cases hk3 : k < often.length
        · obtain ⟨b3, off3, e3, _, hc3⟩ := F3.out (by omega)
          refine .inl ⟨hk3, b3, off3, e3, ?_⟩
          have := eI_at hc3 k hk3
          rw [this, ← hN]
          unfold nAt; rw [List.getD_eq_getElem?_getD, List.getElem?_eq_getElem hk3]; rfl
        · refine .inr ⟨by omega, ?_⟩
          rw [← hN]; unfold nAt; rw [List.getD_eq_getElem?_getD, List.getElem?_eq_none (by omega)]; rfl
      have HSD := Lib.hid hsD; have HSP := Lib.hid hsP; have HNO := Lib.hid hno; have HST := Lib.hid hstep
      generalize sumD xs a often k = SD at *
      generalize sumP xs a often k = SP at *
      clear hsD hsP hno hstep hc2 G3 F3 hall hN hA hAA
      by_cases hx : 0 ≤ A ∧ A < xs.length ∧ 0 ≤ N ∧ N ≤ 1000
      · obtain ⟨x1, x2, x3, x4⟩ := hx
        obtain ⟨m, rfl⟩ : ∃ m : Nat, A = m := ⟨A.toNat, by omega⟩
        have hm : m < xs.length := by omega
        obtain ⟨b, off, rfl, hbl, hc⟩ := H3.out (by omega)
        obtain ⟨c0, c1⟩ := eO_at hc m hm
        have hoo := OK.out.all _ (List.getElem_mem hm)
        have hof2 : oAt xs a k = xs[m] := by rw [hof, Int.toNat_natCast, List.getD_eq_getElem?_getD, List.getElem?_eq_getElem hm]; rfl
        have hST := Lib.hid (HST.out (hdN.2 ⟨by omega, by omega, x3, x4⟩))
        have hsd := HSD.out; have hsp := HSP.out
        rw [hof2] at hsd hsp
        clear HST HNO HSD HSP hof hof2 hc H3 hdN OK
        generalize xs[m] = c at *
        obtain ⟨cd, cp⟩ := c
        obtain ⟨q1, q2, q3, q4⟩ := hoo
        simp only at q1 q2 q3 q4 c0 c1 hsd hsp
        have p1 := Int.mul_nonneg x3 (show 0 ≤ cd by omega)
        have p2 := Int.mul_nonneg x3 q3
        have p3 : N * cd ≤ 1000 * 400 := Int.mul_le_mul x4 q2 (by omega) (by omega)
        have p4 : N * cp ≤ 1000 * 1000000 := Int.mul_le_mul x4 q4 q3 (by omega)
        obtain ⟨u1, hu1⟩ : ∃ u1, N * cd = u1 := ⟨_, rfl⟩
        obtain ⟨u2, hu2⟩ : ∃ u2, N * cp = u2 := ⟨_, rfl⟩
        rw [hu1] at p1 p3 hsd
        rw [hu2] at p2 p4 hsp
        have HSD := Lib.hid hsd; have HSP := Lib.hid hsp
        clear hsd hsp
        rcases hcaseN with ⟨k3, b3, off3, rfl, c3⟩ | ⟨k3, rfl⟩
        all_goals
          go_wp2
          go_round
          case rel => exact ⟨k + 1, by omega, hST.out, by rw [HSD.out], by rw [HSP.out], by go_num⟩
          case measure => simp [intOf]; omega
      · have hno := Lib.hid (HNO.out (fun y => hx (hdN.1 y)))
        clear HNO HST HSD HSP hdN hof OK H3
        have hx4 : A < 0 ∨ (0 ≤ A ∧ (xs.length : Int) ≤ A) ∨ (0 ≤ A ∧ A < xs.length ∧ N < 0) ∨ (0 ≤ A ∧ A < xs.length ∧ 0 ≤ N ∧ 1000 < N) := by omega
        clear hx
        rcases hx4 with q1 | ⟨q1, q2⟩ | ⟨q1, q2, q3⟩ | ⟨q1, q2, q3, q4⟩
        all_goals
          rcases hcaseN with ⟨k3, b3, off3, rfl, c3⟩ | ⟨k3, k4⟩
          all_goals
            try subst k4
            first
              | (exfalso; omega)
              | (go_wp2
                 refine bodyPost_ret (v := .tuple #[.int .i64 0, .int .i64 0, .bool false]) (by simp [results, Try.results30, go_sem]) rfl ⟨by rw [hno.out], br _⟩)
    · obtain rfl : k = a.length := by omega
      have hb : bought xs a often = (sumD xs a often a.length, sumP xs a often a.length, true) := by
        unfold bought; rw [if_pos (show allB xs a often = true from decide_eq_true hall)]
      have HB := Lib.hid hb
      clear hb hall hlt H3 G3 F3 OK hk
      go_wp2
      refine bodyPost_ret (v := .tuple #[.int .i64 (sumD xs a often a.length), .int .i64 (sumP xs a often a.length), .bool true]) (by simp [results, Try.results30, go_sem]) rfl ⟨by rw [HB.out], br _⟩
end Cv
end Go.Proofs.Ytogohocokmhjcaa
