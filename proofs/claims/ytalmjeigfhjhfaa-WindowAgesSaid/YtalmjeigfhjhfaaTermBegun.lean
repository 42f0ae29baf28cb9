/- What must be in any case of terms. -/
import Derived.Test.YtalmjeigfhjhfaaTermWalks3
import Derived.Test.YtalmjeigfhjhfaaTermFull
import Derived.Test.YtalmjeigfhjhfaaSameS
import Derived.Deep.RegionHeld3
set_option linter.unusedVariables false
namespace Go.Proofs.Ytalmjeigfhjhfaa
open Go.RowKit
namespace Dt
open Sp
theorem dayL_any (y m d : Int) (w : World) : Calls Try.prog 42 #[.int .i64 y, .int .i64 m, .int .i64 d] w fun e w' => e = .returned (.agg #[.int .i64 y, .int .i64 m, .int .i64 d]) ∧ Below w.heap.size w w' := by
  go_enter Try.func42, Try.ntmps42
  go_wp2
  refine bodyPost_ret (v := .agg #[.int .i64 y, .int .i64 m, .int .i64 d]) (by simp [results, Try.results42, go_sem]) rfl ⟨rfl, ?_⟩
  exact (br _).alloc (Nat.le_refl _) _
theorem monthsL_any (n : Int) (w : World) : Calls Try.prog 31 #[.int .i64 n] w fun e w' => e = .returned (.agg #[.int .i64 3, .int .i64 n]) ∧ Below w.heap.size w w' := by
  go_enter Try.func31, Try.ntmps31
  go_wp2
  refine bodyPost_ret (v := .agg #[.int .i64 3, .int .i64 n]) (by simp [results, Try.results31, go_sem]) rfl ⟨rfl, ?_⟩
  exact (br _).alloc (Nat.le_refl _) _
theorem spanL_any (a b : Int) (w : World) : Calls Try.prog 43 #[.int .i64 a, .int .i64 b] w fun e w' => e = .returned (.agg #[.int .i64 a, .int .i64 b]) ∧ Below w.heap.size w w' := by
  go_enter Try.func43, Try.ntmps43
  go_wp2
  refine bodyPost_ret (v := .agg #[.int .i64 a, .int .i64 b]) (by simp [results, Try.results43, go_sem]) rfl ⟨rfl, ?_⟩
  exact (br _).alloc (Nat.le_refl _) _
theorem spanListL_any (v : Value) (w : World) : Calls Try.prog 47 #[v] w fun e w' => e = .returned v ∧ w = w' := by
  go_enter Try.func47, Try.ntmps47
  go_wp2
  go_ret
  exact ⟨rfl, rfl⟩
theorem rd2 {w : World} {b off cap : Nat} {x y : Int × Int} (h0 : w.cell? ⟨b, off, none⟩ = some (.int .i64 x.1)) (h1 : w.cell? ⟨b, off + 1, none⟩ = some (.int .i64 x.2)) (h2 : w.cell? ⟨b, off + 2, none⟩ = some (.int .i64 y.1)) (h3 : w.cell? ⟨b, off + 2 + 1, none⟩ = some (.int .i64 y.2))
    (hc : 2 ≤ cap) (hm : cap ≤ maxLen) : Rd 2 eP w (.slice (some ⟨b, off, none⟩) 2 cap) [x, y] := by
  refine ⟨_, _, rfl, hc, hm, fun _ => ⟨b, off, rfl, World.block_lt_of_cell? w ⟨b, off, none⟩ h0, ?_⟩⟩
  intro i hi j u hu
  rcases (show i = 0 ∨ i = 1 by simp at hi; omega) with rfl | rfl
  · match j with
    | 0 => simp [eP] at hu; subst hu; exact h0
    | 1 => simp [eP] at hu; subst hu; exact h1
    | j + 2 => simp [eP] at hu
  · match j with
    | 0 => simp [eP] at hu; subst hu; exact h2
    | 1 => simp [eP] at hu; subst hu; exact h3
    | j + 2 => simp [eP] at hu
theorem k_find1 : findF 3 1 738916 738945 = (1, 0) := by
  have h : findK 3 1 738916 738945 = 1 := first_eq _ _ _ (by omega) (fun t ht => by
    have : t = 0 := by omega
    subst this; decide) (fun _ => by decide)
  unfold findF; rw [h]; decide
theorem k_find2 : findF 3 1 738916 738915 = (0, 4) := by
  unfold findF
  rw [if_neg (by decide), if_neg (by decide), if_pos (by decide)]
theorem k_full : fullC 3 1 738916 2 = 0 := by
  unfold fullC
  rw [if_neg (by decide), if_neg (by decide), if_pos]
  intro k hk
  have hk : k < 2 := hk
  rcases (show k = 0 ∨ k = 1 by omega) with rfl | rfl <;> decide
theorem k_spans : spansTo 3 1 738916 2 = [(738916, 738945), (738945, 738976)] := by decide
set_option maxHeartbeats 2000000 in
set_option maxRecDepth 100000 in
theorem tbegun_any (w : World) : Calls Try.prog 27 #[] w fun e w' => e = .returned (.bool true) ∧ Below w.heap.size w w' := by
  have E1 := Lib.hid (show dayOf 2024 1 31 = (738916, 0) by decide)
  have E2 := Lib.hid (show nthF 3 1 738916 1 = (738945, 0) by decide)
  have E3 := Lib.hid (show nthF 3 1 738916 2 = (738976, 0) by decide)
  have E4 := Lib.hid (show ofF 738945 = ((2024, 2, 29), 0) by decide)
  have E5 := Lib.hid (show ofF 738976 = ((2024, 3, 31), 0) by decide)
  have E6 := Lib.hid k_find1
  have E7 := Lib.hid k_find2
  have E8 := Lib.hid k_full
  have E9 := Lib.hid k_spans
  have n1 := nth_any 738916 3 1 1
  have n2 := nth_any 738916 3 1 2
  have n3 := find_any 738916 3 1 738945
  have n4 := find_any 738916 3 1 738915
  have n5 := full_any 738916 3 1 2
  unfold PairQ aT at n1 n2 n3 n4
  unfold aT FullQ at n5
  rw [E2.out] at n1; rw [E3.out] at n2; rw [E6.out] at n3; rw [E7.out] at n4; rw [E8.out, if_pos rfl, show (2 : Int).toNat = 2 from rfl, E9.out] at n5
  go_enter Try.func27, Try.ntmps27

  go_wp2_with fail
  refine (dayL_any _ _ _ _).mono ?_
  rintro en w1 ⟨rfl, hb_w1⟩
  have n_w1 := hb_w1
  have H_w1 := n_w1
  go_wp2_with fail
  refine (day_any _ _ _ _).mono ?_
  rintro en w2 ⟨rfl, hb_w2⟩
  rw [E1.out]
  have n_w2 := hb_w2
  have H_w2 := bt H_w1 n_w2
  go_wp2_with fail
  refine (monthsL_any _ _).mono ?_
  rintro en w3 ⟨rfl, hb_w3⟩
  have n_w3 := hb_w3
  have H_w3 := bt H_w2 n_w3
  go_wp2_with fail
  refine (n1 _).mono ?_
  rintro en w4 ⟨rfl, hb_w4⟩
  have n_w4 := hb_w4
  have H_w4 := bt H_w3 n_w4
  go_wp2_with fail
  refine (monthsL_any _ _).mono ?_
  rintro en w5 ⟨rfl, hb_w5⟩
  have n_w5 := hb_w5
  have H_w5 := bt H_w4 n_w5
  go_wp2_with fail
  refine (n2 _).mono ?_
  rintro en w6 ⟨rfl, hb_w6⟩
  have n_w6 := hb_w6
  have H_w6 := bt H_w5 n_w6
  go_wp2_with fail
  refine (of_any _ _).mono ?_
  rintro en w7 ⟨rfl, hb_w7⟩
  rw [E4.out]; simp only [aD]
  have n_w7 := hb_w7
  have H_w7 := bt H_w6 n_w7
  go_wp2_with fail
  refine (of_any _ _).mono ?_
  rintro en w8 ⟨rfl, hb_w8⟩
  rw [E5.out]; simp only [aD]
  have n_w8 := bt ((br _).alloc (Nat.le_refl _) _) hb_w8
  have H_w8 := bt H_w7 n_w8
  have k_w8 := boxc (bx hb_w8)
  have l_w8 := boxs (bx hb_w8)
  go_wp2_with fail
  refine (monthsL_any _ _).mono ?_
  rintro en w9 ⟨rfl, hb_w9⟩
  have n_w9 := bt ((br _).alloc (Nat.le_refl _) _) hb_w9
  have H_w9 := bt H_w8 n_w9
  have k_w8 := kc n_w9 l_w8 k_w8
  have l_w8 := kl n_w9 l_w8
  have k_w9 := boxc (bx hb_w9)
  have l_w9 := boxs (bx hb_w9)
  go_wp2_with fail
  refine (n3 _).mono ?_
  rintro en wa ⟨rfl, hb_wa⟩
  have n_wa := hb_wa
  have H_wa := bt H_w9 n_wa
  have k_w8 := kc n_wa l_w8 k_w8
  have l_w8 := kl n_wa l_w8
  have k_w9 := kc n_wa l_w9 k_w9
  have l_w9 := kl n_wa l_w9
  go_wp2_with fail
  refine (monthsL_any _ _).mono ?_
  rintro en wb ⟨rfl, hb_wb⟩
  have n_wb := hb_wb
  have H_wb := bt H_wa n_wb
  have k_w8 := kc n_wb l_w8 k_w8
  have l_w8 := kl n_wb l_w8
  have k_w9 := kc n_wb l_w9 k_w9
  have l_w9 := kl n_wb l_w9
  go_wp2_with fail
  refine (n5 _).mono ?_
  rintro en wc ⟨v, L, rfl, hL, hbc, rfl⟩
  have H_wc := bt H_wb hbc
  have k_w8 := kc hbc l_w8 k_w8
  have l_w8 := kl hbc l_w8
  have k_w9 := kc hbc l_w9 k_w9
  have l_w9 := kl hbc l_w9

  go_wp2_with fail
  refine (monthsL_any _ _).mono ?_
  rintro en wd ⟨rfl, hb_wd⟩
  have n_wd := hb_wd
  have H_wd := bt H_wc n_wd
  have k_w8 := kc n_wd l_w8 k_w8
  have l_w8 := kl n_wd l_w8
  have k_w9 := kc n_wd l_w9 k_w9
  have l_w9 := kl n_wd l_w9
  go_wp2_with fail
  refine (n4 _).mono ?_
  rintro en we ⟨rfl, hb_we⟩
  have n_we := hb_we
  have H_we := bt H_wd n_we
  have k_w8 := kc n_we l_w8 k_w8
  have l_w8 := kl n_we l_w8
  have k_w9 := kc n_we l_w9 k_w9
  have l_w9 := kl n_we l_w9
  go_wp2_with fail
  have c10 := k_w8 0; have c11 := k_w8 1; have c12 := k_w8 2
  have c20 := k_w9 0; have c21 := k_w9 1; have c22 := k_w9 2
  simp only [List.getElem?_toArray, List.getElem?_cons_zero, List.getElem?_cons_succ] at c10 c11 c12 c20 c21 c22
  obtain ⟨la, lc, rfl, hl1, hl2, hl3⟩ := hL.below (bt n_wd n_we)
  obtain ⟨lb, lo, rfl, hlb, hlc⟩ := hl3 (by simp)
  obtain ⟨d0, d1⟩ := Sp.eP_at hlc 0 (by simp)
  obtain ⟨d2, d3⟩ := Sp.eP_at hlc 1 (by simp)
  simp only [List.getElem_cons_zero, List.getElem_cons_succ, Nat.zero_mul, Nat.one_mul, Nat.add_zero] at d0 d1 d2 d3
  have HB := Lib.hid H_we
  clear hL hlc hl3 hlb hb_w1 hb_w2 hb_w3 hb_w4 hb_w5 hb_w6 hb_w7 hb_w8 hb_w9 hb_wa hb_wb hbc hb_wd hb_we n1 n2 n3 n4 n5 n_w1 n_w2 n_w3 n_w4 n_w5 n_w6 n_w7 n_w8 n_w9 n_wa n_wb n_wd n_we H_w1 H_w2 H_w3 H_w4 H_w5 H_w6 H_w7 H_w8 H_w9 H_wa H_wb H_wc H_wd H_we k_w8 k_w9
  go_region_held3 (fun w' => w'.cell? ⟨w7.heap.size, 0, none⟩ = some (.int .i64 2024) ∧ w'.cell? ⟨w7.heap.size, 1, none⟩ = some (.int .i64 2) ∧ w'.cell? ⟨w7.heap.size, 2, none⟩ = some (.int .i64 29) ∧ w'.cell? ⟨w8.heap.size, 0, none⟩ = some (.int .i64 2024) ∧ w'.cell? ⟨w8.heap.size, 1, none⟩ = some (.int .i64 3) ∧ w'.cell? ⟨w8.heap.size, 2, none⟩ = some (.int .i64 31) ∧ w'.cell? ⟨lb, lo, none⟩ = some (.int .i64 738916) ∧ w'.cell? ⟨lb, lo + 1, none⟩ = some (.int .i64 738945) ∧ w'.cell? ⟨lb, lo + 2, none⟩ = some (.int .i64 738945) ∧ w'.cell? ⟨lb, lo + 2 + 1, none⟩ = some (.int .i64 738976))
    (first | go_keep | (go_split_ands; (repeat' apply And.intro) <;> first | assumption | exact kp hbA (by assumption) | exact kp hbB (by assumption) | exact kp hbC (by assumption) | exact kp hbD (by assumption) | exact kp hbF (by assumption)))
    (first
      | (go_at_call 42; (with_reducible refine (dayL_any 2024 2 29 _).mono ?_); rintro en wA ⟨rfl, hbA⟩)
      | (go_at_call 42; (with_reducible refine (dayL_any 2024 3 31 _).mono ?_); rintro en wB ⟨rfl, hbB⟩)
      | (go_at_call 43; (with_reducible refine (spanL_any 738916 738945 _).mono ?_); rintro en wC ⟨rfl, hbC⟩)
      | (go_at_call 43; (with_reducible refine (spanL_any 738945 738976 _).mono ?_); rintro en wD ⟨rfl, hbD⟩)
      | (go_at_call 47; (with_reducible refine (spanListL_any _ _).mono ?_); rintro en wE ⟨rfl, rfl⟩)
      | (go_at_call 30; go_split_ands; refine (sameS_any _ _ [(738916, 738945), (738945, 738976)] [(738916, 738945), (738945, 738976)] _ (rd2 (by assumption) (by assumption) (by assumption) (by assumption) hl1 hl2) (rd2 (by rw [World.cell?_alloc_mark]; rfl) (by rw [World.cell?_alloc_mark]; rfl) (by rw [World.cell?_alloc_mark]; rfl) (by rw [World.cell?_alloc_mark]; rfl) (Nat.le_refl _) (by unfold maxLen; omega))).mono ?_; rintro en wF ⟨rfl, hbF⟩))
  go_wp2
  go_ret
  refine ⟨?_, ?_⟩
  · first | rfl | (simp; done)
  · exact bt (bt (bt (bt (bd HB.out hbA) hbB) hbC) (hbD.alloc hbD.size _)) hbF
end Dt
end Go.Proofs.Ytalmjeigfhjhfaa
