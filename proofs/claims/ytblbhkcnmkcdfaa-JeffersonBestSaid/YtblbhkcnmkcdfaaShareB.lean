/- What is shared out: JeffersonBest. (gen_share2.py) -/
import Derived.Test.YtblbhkcnmkcdfaaShareJ
set_option linter.unusedSimpArgs false
set_option linter.unusedVariables false
namespace Go.Proofs.Ytblbhkcnmkcdfaa
open Go.RowKit
namespace Sh
open Stb
set_option maxRecDepth 100000 in
set_option maxHeartbeats 8000000 in
theorem best_walk (t : Int) (v : Value) (ws : List Int) (i k : Int) (w : World) (h : RdE elZ w v ws) : Calls Try.prog 8 #[.int .i64 t, v, .int .i64 i, .int .i64 k] w (BoolZ true w) := by
  have HV := Lib.hid h
  have C1 := Lib.hid (fun v w h => jef_any v t ws w h)
  have CB := Lib.hid begun_any
  by_cases he : allE t ws = 0
  · obtain ⟨q1, q2, q3, q4, q5, q6⟩ := allE_ok he
    have hn0 := len_pos he
    have HLN := Lib.hid (jefR_len he)
    rw [he] at C1
    obtain ⟨a, cap, rfl, _, _, _⟩ := h
    by_cases c1 : i < 0
    · generalize jefR t ws = R at *
      clear he q4 q5 q6
      go_enter Try.func8, Try.ntmps8
      go_wp2_with fail
      refine (C1.out _ _ HV.out).mono ?_
      rintro en w1 ⟨u1, rfl, o1, b1⟩
      obtain ⟨a1, c1, f1⟩ := own_shapeZ o1
      rw [HLN.out] at f1
      subst f1
      have R1 := Lib.hid o1.rd; have B1 := Lib.hid b1
      clear o1 b1
      go_wp2_with fail
      refine (CB.out _).mono ?_
      rintro en w2 ⟨rfl, b2⟩
      have R2 := Lib.hid (R1.out.below b2); have B2 := Lib.hid (bt B1.out b2)
      clear b2 R1 B1
      go_wp2
      go_ret
      exact ⟨by first | rfl | (simp; done), B2.out⟩
    · by_cases c2 : k < 0
      · generalize jefR t ws = R at *
        clear he q4 q5 q6
        go_enter Try.func8, Try.ntmps8
        go_wp2_with fail
        refine (C1.out _ _ HV.out).mono ?_
        rintro en w1 ⟨u1, rfl, o1, b1⟩
        obtain ⟨a1, c1, f1⟩ := own_shapeZ o1
        rw [HLN.out] at f1
        subst f1
        have R1 := Lib.hid o1.rd; have B1 := Lib.hid b1
        clear o1 b1
        go_wp2_with fail
        refine (CB.out _).mono ?_
        rintro en w2 ⟨rfl, b2⟩
        have R2 := Lib.hid (R1.out.below b2); have B2 := Lib.hid (bt B1.out b2)
        clear b2 R1 B1
        go_wp2
        go_ret
        exact ⟨by first | rfl | (simp; done), B2.out⟩
      · by_cases c3 : (ws.length : Int) ≤ i
        · generalize jefR t ws = R at *
          have c3' : i ≥ (ws.length : Int) := c3
          clear he q4 q5 q6
          go_enter Try.func8, Try.ntmps8
          go_wp2_with fail
          refine (C1.out _ _ HV.out).mono ?_
          rintro en w1 ⟨u1, rfl, o1, b1⟩
          obtain ⟨a1, c1, f1⟩ := own_shapeZ o1
          rw [HLN.out] at f1
          subst f1
          have R1 := Lib.hid o1.rd; have B1 := Lib.hid b1
          clear o1 b1
          go_wp2_with fail
          refine (CB.out _).mono ?_
          rintro en w2 ⟨rfl, b2⟩
          have R2 := Lib.hid (R1.out.below b2); have B2 := Lib.hid (bt B1.out b2)
          clear b2 R1 B1
          go_wp2
          go_ret
          exact ⟨by first | rfl | (simp; done), B2.out⟩
        · by_cases c4 : (ws.length : Int) ≤ k
          · generalize jefR t ws = R at *
            have c4' : k ≥ (ws.length : Int) := c4
            have c3' : ¬ i ≥ (ws.length : Int) := c3
            clear he q4 q5 q6
            go_enter Try.func8, Try.ntmps8
            go_wp2_with fail
            refine (C1.out _ _ HV.out).mono ?_
            rintro en w1 ⟨u1, rfl, o1, b1⟩
            obtain ⟨a1, c1, f1⟩ := own_shapeZ o1
            rw [HLN.out] at f1
            subst f1
            have R1 := Lib.hid o1.rd; have B1 := Lib.hid b1
            clear o1 b1
            go_wp2_with fail
            refine (CB.out _).mono ?_
            rintro en w2 ⟨rfl, b2⟩
            have R2 := Lib.hid (R1.out.below b2); have B2 := Lib.hid (bt B1.out b2)
            clear b2 R1 B1
            go_wp2
            go_ret
            exact ⟨by first | rfl | (simp; done), B2.out⟩
          · obtain ⟨i, rfl⟩ : ∃ i' : Nat, i = i' := ⟨i.toNat, by omega⟩
            obtain ⟨k, rfl⟩ : ∃ k' : Nat, k = k' := ⟨k.toNat, by omega⟩
            have hi : i < ws.length := by omega
            have hk : k < ws.length := by omega
            have d3 : decide ((i : Int) ≥ (ws.length : Int)) = false := decide_eq_false (by omega)
            have d4 : decide ((k : Int) ≥ (ws.length : Int)) = false := decide_eq_false (by omega)
            have d1 : decide ((i : Int) < 0) = false := decide_eq_false (by omega)
            have d2 : decide ((k : Int) < 0) = false := decide_eq_false (by omega)
            have d3' : decide (ws.length ≤ i) = false := decide_eq_false (by omega)
            have d4' : decide (ws.length ≤ k) = false := decide_eq_false (by omega)
            have ln : ((ws.length : Int) != (ws.length : Int)) = false := by simp
            have i1 : (i : Int) < (ws.length : Int) := by omega
            have i0 : (0 : Int) ≤ (i : Int) := by omega
            have k1 : (k : Int) < (ws.length : Int) := by omega
            have k0 : (0 : Int) ≤ (k : Int) := by omega
            have CT := Lib.hid (fun v w h => tot_any v ws w h q1 (fun j hj => by have := wv_ok q4 j; unfold wv at this; omega))
            have hbst := jf_best (n := ws.length) (fun j => (wv_ok q4 j).1) t.toNat i k hi hk
            have hquo := jf_quota (ws := ws) (n := ws.length) (fun j => (wv_ok q4 j).1) q5 t.toNat i hi
            rw [show (t.toNat : Int) = t by omega] at hquo
            rw [← jefR_at he i hi] at hbst hquo
            rw [← jefR_at he k hk] at hbst
            have hbi := jefR_bd he i hi; have hbk := jefR_bd he k hk
            have hwi := wv_ok q4 i; have hwk := wv_ok q4 k
            have hS := (sumW_bd (ws := ws) (k := ws.length) (fun j _ => wv_ok q4 j)).2
            have e1 : sumN ws.length (fun j => ws.getD j 0) = sumW ws ws.length := rfl
            rw [e1] at CT
            generalize jefR t ws = R at *
            obtain ⟨S, hSS⟩ : ∃ S, sumW ws ws.length = S := ⟨_, rfl⟩
            rw [hSS] at CT hquo hS q5
            have hS2 : S ≤ 3200000 := by omega
            clear he q4 q6 e1 hSS hS
            go_enter Try.func8, Try.ntmps8
            go_wp2_with fail
            refine (C1.out _ _ HV.out).mono ?_
            rintro en w1 ⟨u1, rfl, o1, b1⟩
            obtain ⟨a1, c1, f1⟩ := own_shapeZ o1
            rw [HLN.out] at f1
            subst f1
            have R1 := Lib.hid o1.rd; have B1 := Lib.hid b1
            clear o1 b1
            go_wp2_with fail
            refine (CB.out _).mono ?_
            rintro en w2 ⟨rfl, b2⟩
            have R2 := Lib.hid (R1.out.below b2); have B2 := Lib.hid (bt B1.out b2)
            clear b2 R1 B1
            go_wp2_with fail
            refine (CT.out _ _ (HV.out.below B2.out)).mono ?_
            rintro en w3 ⟨rfl, rfl⟩
            obtain ⟨ga, oa, ea, hga, hca⟩ := rd_cell R2.out HLN.out hn0
            obtain ⟨gb, ob, eb, hgb, hcb⟩ := rd_cell (HV.out.below B2.out) rfl hn0
            subst ea eb
            have l0 := hca i hi; have l1 := hca k hk
            have w0 := hcb i hi; have w1' := hcb k hk
            clear hca hcb CT C1 CB
            unfold wv at hbst hquo hwi hwk
            obtain ⟨li, e1⟩ : ∃ x, R.getD i 0 = x := ⟨_, rfl⟩
            obtain ⟨lk, e2⟩ : ∃ x, R.getD k 0 = x := ⟨_, rfl⟩
            obtain ⟨wi, e3⟩ : ∃ x, ws.getD i 0 = x := ⟨_, rfl⟩
            obtain ⟨wk, e4⟩ : ∃ x, ws.getD k 0 = x := ⟨_, rfl⟩
            rw [e1] at l0 hbst hquo hbi; rw [e2] at l1 hbst hbk; rw [e3] at w0 hbst hquo hwi; rw [e4] at w1' hbst hwk
            clear e1 e2 e3 e4
            obtain ⟨P, hP⟩ : ∃ P, (li + 1) * S = P := ⟨_, rfl⟩
            obtain ⟨Q, hQ⟩ : ∃ Q, t * wi = Q := ⟨_, rfl⟩
            obtain ⟨X, hX⟩ : ∃ X, wi * (lk + 1) = X := ⟨_, rfl⟩
            obtain ⟨Y, hY⟩ : ∃ Y, wk * li = Y := ⟨_, rfl⟩
            have hPb : 0 ≤ P ∧ P ≤ 320003200000 := by
              rw [← hP]
              refine ⟨Int.mul_nonneg (by omega) (by omega), ?_⟩
              have h1 : (li + 1) * S ≤ (li + 1) * 3200000 := Int.mul_le_mul_of_nonneg_left hS2 (by omega)
              omega
            have hQb : 0 ≤ Q ∧ Q ≤ 10000000000 := by
              rw [← hQ]
              refine ⟨Int.mul_nonneg q2 hwi.1, ?_⟩
              have h1 : t * wi ≤ t * 100000 := Int.mul_le_mul_of_nonneg_left hwi.2 q2
              omega
            have hXb : 0 ≤ X ∧ X ≤ 10000100000 := by
              rw [← hX]
              refine ⟨Int.mul_nonneg hwi.1 (by omega), ?_⟩
              have h1 : wi * (lk + 1) ≤ 100000 * (lk + 1) := Int.mul_le_mul_of_nonneg_right hwi.2 (by omega)
              omega
            have hYb : 0 ≤ Y ∧ Y ≤ 10000000000 := by
              rw [← hY]
              refine ⟨Int.mul_nonneg hwk.1 hbi.1, ?_⟩
              have h1 : wk * li ≤ 100000 * li := Int.mul_le_mul_of_nonneg_right hwk.2 hbi.1
              omega
            rw [hP, hQ] at hquo
            rw [hX, hY] at hbst
            have x1 : IntKind.i64.wrap (li + 1) = li + 1 := IntWalk.i64_in _ (by omega)
            have x2 : IntKind.i64.wrap (lk + 1) = lk + 1 := IntWalk.i64_in _ (by omega)
            have x3 : IntKind.i64.wrap ((li + 1) * S) = P := by rw [hP]; exact IntWalk.i64_in _ (by omega)
            have x4 : IntKind.i64.wrap (t * wi) = Q := by rw [hQ]; exact IntWalk.i64_in _ (by omega)
            have x5 : IntKind.i64.wrap (wi * (lk + 1)) = X := by rw [hX]; exact IntWalk.i64_in _ (by omega)
            have x6 : IntKind.i64.wrap (wk * li) = Y := by rw [hY]; exact IntWalk.i64_in _ (by omega)
            have x7 : decide (P > Q) = true := decide_eq_true (by omega)
            have x7' : decide (Q < P) = true := decide_eq_true (by omega)
            clear hP hQ hX hY hPb hQb hquo hXb hYb hwi hwk
            by_cases cz : li = 0
            · have z1 : (li == 0) = true := by simp [cz]
              clear cz hbst hbi hbk
              go_wp2_with fail
              go_quiet (fail)
              go_wp2
              go_ret
              exact ⟨by first | rfl | (simp; done), bn B2.out nq⟩
            · have z1 : (li == 0) = false := beq_eq_false_iff_ne.2 cz
              have z2 : decide (X ≥ Y) = true := decide_eq_true (by omega)
              have z2' : decide (Y ≤ X) = true := decide_eq_true (by omega)
              clear cz hbst hbi hbk
              go_wp2_with fail
              go_quiet (fail)
              go_wp2
              go_ret
              exact ⟨by first | rfl | (simp; done), bn B2.out nq⟩
  · have hr : jefR t ws = [] := by unfold jefR; rw [if_neg he]
    rw [hr] at C1
    have hne : (allE t ws != 0) = true := by simp [he]
    have hne2 : (allE t ws == 0) = false := beq_eq_false_iff_ne.2 he
    obtain ⟨a, cap, rfl, _, _, _⟩ := h
    generalize allE t ws = E at *
    clear hr he
    go_enter Try.func8, Try.ntmps8
    go_wp2_with fail
    refine (C1.out _ _ HV.out).mono ?_
    rintro en w1 ⟨u1, rfl, o1, b1⟩
    obtain ⟨a1, c1, f1⟩ := own_shapeZ o1
    subst f1
    have R1 := Lib.hid o1.rd; have B1 := Lib.hid b1
    clear o1 b1
    go_wp2_with fail
    refine (CB.out _).mono ?_
    rintro en w2 ⟨rfl, b2⟩
    have R2 := Lib.hid (R1.out.below b2); have B2 := Lib.hid (bt B1.out b2)
    clear b2 R1 B1
    go_wp2
    go_ret
    exact ⟨by first | rfl | (simp; done), B2.out⟩
theorem best_end (t : Int) (v : Value) (ws : List Int) (i k : Int) (w : World) (_ : (Lit.int .i64 t).wf = true) (h : RdE elZ w v ws) (_ : (Lit.int .i64 i).wf = true) (_ : (Lit.int .i64 k).wf = true) : Calls Try.prog 8 #[.int .i64 t, v, .int .i64 i, .int .i64 k] w fun e w' => e = .returned (.bool true) ∧ Below w.heap.size w w' := best_walk t v ws i k w h
end Sh
end Go.Proofs.Ytblbhkcnmkcdfaa
