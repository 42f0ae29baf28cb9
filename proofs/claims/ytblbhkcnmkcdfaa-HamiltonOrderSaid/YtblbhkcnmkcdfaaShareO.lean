/- What is shared out: HamiltonOrder. (gen_share2.py) -/
import Derived.Test.YtblbhkcnmkcdfaaShareJ
set_option linter.unusedSimpArgs false
set_option linter.unusedVariables false
namespace Go.Proofs.Ytblbhkcnmkcdfaa
open Go.RowKit
namespace Sh
open Stb
set_option maxRecDepth 100000 in
set_option maxHeartbeats 8000000 in
theorem order_walk (t : Int) (v : Value) (ws : List Int) (i k : Int) (w : World) (h : RdE elZ w v ws) : Calls Try.prog 6 #[.int .i64 t, v, .int .i64 i, .int .i64 k] w (BoolZ true w) := by
  have HV := Lib.hid h
  have C1 := Lib.hid (fun v w h => ham_any v t ws w h)
  have CB := Lib.hid begun_any
  by_cases he : allE t ws = 0
  · obtain ⟨q1, q2, q3, q4, q5, q6⟩ := allE_ok he
    have hn0 := len_pos he
    have HLN := Lib.hid (hamR_len he)
    rw [he] at C1
    obtain ⟨a, cap, rfl, _, _, _⟩ := h
    by_cases c1 : i < 0
    · generalize hamR t ws = R at *
      clear he q4 q5 q6
      go_enter Try.func6, Try.ntmps6
      go_wp2_with fail
      refine (C1.out _ _ HV.out).mono ?_
      rintro en w1 ⟨u1, rfl, o1, b1⟩
      obtain ⟨a1, c1, f1⟩ := own_shapeZ o1
      rw [HLN.out] at f1
      subst f1
      have R1 := Lib.hid o1.rd; have B1 := Lib.hid b1
      clear o1 b1
      go_wp2_with fail
      refine (CB.out _).mono ?_
      rintro en w2 ⟨rfl, b2⟩
      have R2 := Lib.hid (R1.out.below b2); have B2 := Lib.hid (bt B1.out b2)
      clear b2 R1 B1
      go_wp2
      go_ret
      exact ⟨by first | rfl | (simp; done), B2.out⟩
    · by_cases c2 : k < 0
      · generalize hamR t ws = R at *
        clear he q4 q5 q6
        go_enter Try.func6, Try.ntmps6
        go_wp2_with fail
        refine (C1.out _ _ HV.out).mono ?_
        rintro en w1 ⟨u1, rfl, o1, b1⟩
        obtain ⟨a1, c1, f1⟩ := own_shapeZ o1
        rw [HLN.out] at f1
        subst f1
        have R1 := Lib.hid o1.rd; have B1 := Lib.hid b1
        clear o1 b1
        go_wp2_with fail
        refine (CB.out _).mono ?_
        rintro en w2 ⟨rfl, b2⟩
        have R2 := Lib.hid (R1.out.below b2); have B2 := Lib.hid (bt B1.out b2)
        clear b2 R1 B1
        go_wp2
        go_ret
        exact ⟨by first | rfl | (simp; done), B2.out⟩
      · by_cases c3 : (ws.length : Int) ≤ i
        · generalize hamR t ws = R at *
          have c3' : i ≥ (ws.length : Int) := c3
          clear he q4 q5 q6
          go_enter Try.func6, Try.ntmps6
          go_wp2_with fail
          refine (C1.out _ _ HV.out).mono ?_
          rintro en w1 ⟨u1, rfl, o1, b1⟩
          obtain ⟨a1, c1, f1⟩ := own_shapeZ o1
          rw [HLN.out] at f1
          subst f1
          have R1 := Lib.hid o1.rd; have B1 := Lib.hid b1
          clear o1 b1
          go_wp2_with fail
          refine (CB.out _).mono ?_
          rintro en w2 ⟨rfl, b2⟩
          have R2 := Lib.hid (R1.out.below b2); have B2 := Lib.hid (bt B1.out b2)
          clear b2 R1 B1
          go_wp2
          go_ret
          exact ⟨by first | rfl | (simp; done), B2.out⟩
        · by_cases c4 : (ws.length : Int) ≤ k
          · generalize hamR t ws = R at *
            have c4' : k ≥ (ws.length : Int) := c4
            have c3' : ¬ i ≥ (ws.length : Int) := c3
            clear he q4 q5 q6
            go_enter Try.func6, Try.ntmps6
            go_wp2_with fail
            refine (C1.out _ _ HV.out).mono ?_
            rintro en w1 ⟨u1, rfl, o1, b1⟩
            obtain ⟨a1, c1, f1⟩ := own_shapeZ o1
            rw [HLN.out] at f1
            subst f1
            have R1 := Lib.hid o1.rd; have B1 := Lib.hid b1
            clear o1 b1
            go_wp2_with fail
            refine (CB.out _).mono ?_
            rintro en w2 ⟨rfl, b2⟩
            have R2 := Lib.hid (R1.out.below b2); have B2 := Lib.hid (bt B1.out b2)
            clear b2 R1 B1
            go_wp2
            go_ret
            exact ⟨by first | rfl | (simp; done), B2.out⟩
          · obtain ⟨i, rfl⟩ : ∃ i' : Nat, i = i' := ⟨i.toNat, by omega⟩
            obtain ⟨k, rfl⟩ : ∃ k' : Nat, k = k' := ⟨k.toNat, by omega⟩
            have hi : i < ws.length := by omega
            have hk : k < ws.length := by omega
            have d3 : decide ((i : Int) ≥ (ws.length : Int)) = false := decide_eq_false (by omega)
            have d4 : decide ((k : Int) ≥ (ws.length : Int)) = false := decide_eq_false (by omega)
            have d1 : decide ((i : Int) < 0) = false := decide_eq_false (by omega)
            have d2 : decide ((k : Int) < 0) = false := decide_eq_false (by omega)
            have d3' : decide (ws.length ≤ i) = false := decide_eq_false (by omega)
            have d4' : decide (ws.length ≤ k) = false := decide_eq_false (by omega)
            have ln : ((ws.length : Int) != (ws.length : Int)) = false := by simp
            have i1 : (i : Int) < (ws.length : Int) := by omega
            have i0 : (0 : Int) ≤ (i : Int) := by omega
            have k1 : (k : Int) < (ws.length : Int) := by omega
            have k0 : (0 : Int) ≤ (k : Int) := by omega
            have hord := ham_order he i k hi hk
            have hbi := ham_bd he i hi; have hbk := ham_bd he k hk
            generalize hamR t ws = R at *
            clear he q4 q5 q6
            go_enter Try.func6, Try.ntmps6
            go_wp2_with fail
            refine (C1.out _ _ HV.out).mono ?_
            rintro en w1 ⟨u1, rfl, o1, b1⟩
            obtain ⟨a1, c1, f1⟩ := own_shapeZ o1
            rw [HLN.out] at f1
            subst f1
            have R1 := Lib.hid o1.rd; have B1 := Lib.hid b1
            clear o1 b1
            go_wp2_with fail
            refine (CB.out _).mono ?_
            rintro en w2 ⟨rfl, b2⟩
            have R2 := Lib.hid (R1.out.below b2); have B2 := Lib.hid (bt B1.out b2)
            clear b2 R1 B1
            obtain ⟨ga, oa, ea, hga, hca⟩ := rd_cell R2.out HLN.out hn0
            obtain ⟨gb, ob, eb, hgb, hcb⟩ := rd_cell (HV.out.below B2.out) rfl hn0
            subst ea eb
            have l0 := hca i hi; have l1 := hca k hk
            have w0 := hcb i hi; have w1' := hcb k hk
            clear hca hcb C1 CB
            unfold wv at hord
            obtain ⟨li, e1⟩ : ∃ x, R.getD i 0 = x := ⟨_, rfl⟩
            obtain ⟨lk, e2⟩ : ∃ x, R.getD k 0 = x := ⟨_, rfl⟩
            obtain ⟨wi, e3⟩ : ∃ x, ws.getD i 0 = x := ⟨_, rfl⟩
            obtain ⟨wk, e4⟩ : ∃ x, ws.getD k 0 = x := ⟨_, rfl⟩
            rw [e1] at l0 hord hbi; rw [e2] at l1 hord hbk; rw [e3] at w0 hord; rw [e4] at w1' hord
            clear e1 e2 e3 e4
            obtain ⟨ho1, ho2⟩ := hord
            have x1 : IntKind.i64.wrap (li + 1) = li + 1 := IntWalk.i64_in _ (by omega)
            have x2 : IntKind.i64.wrap (lk + 1) = lk + 1 := IntWalk.i64_in _ (by omega)
            by_cases cw : wi = wk
            · have z0 : (wi == wk) = true := beq_iff_eq.2 cw
              have ho := ho1 cw
              clear ho1 ho2 cw
              by_cases ce : li = lk
              · have z1 : (li == lk) = true := beq_iff_eq.2 ce
                clear ce ho
                go_wp2_with fail
                go_quiet (fail)
                go_wp2_with fail
                go_quiet (fail)
                go_wp2
                go_ret
                exact ⟨by first | rfl | (simp; done), bn (bn B2.out _) _⟩
              · have z1 : (li == lk) = false := beq_eq_false_iff_ne.2 ce
                by_cases cl : i < k
                · have z2 : (i : Int) < (k : Int) := by omega
                  have z3 : (li == lk + 1) = true := beq_iff_eq.2 (by omega)
                  clear ce ho
                  have z4 : decide ((i : Int) > (k : Int)) = false := decide_eq_false (by omega)
                  have z5 : decide ((k : Int) < (i : Int)) = false := decide_eq_false (by omega)
                  have z6 : decide (k < i) = false := decide_eq_false (by omega)
                  go_wp2_with fail
                  go_quiet (fail)
                  go_wp2_with fail
                  go_quiet (fail)
                  go_wp2
                  go_ret
                  exact ⟨by first | rfl | (simp; done), bn (bn B2.out _) _⟩
                · have z2 : decide ((i : Int) < (k : Int)) = false := decide_eq_false (by omega)
                  have z2' : decide (i < k) = false := decide_eq_false (by omega)
                  have z3 : (lk == li + 1) = true := beq_iff_eq.2 (by omega)
                  have z4 : (i : Int) > (k : Int) := by omega
                  clear ce ho
                  go_wp2_with fail
                  go_quiet (fail)
                  go_wp2_with fail
                  go_quiet (fail)
                  go_wp2
                  go_ret
                  exact ⟨by first | rfl | (simp; done), bn (bn B2.out _) _⟩
            · have z0 : (wi == wk) = false := beq_eq_false_iff_ne.2 cw
              by_cases cl : wi < wk
              · clear ho1 ho2 cw
                go_wp2_with fail
                go_quiet (fail)
                go_wp2_with fail
                go_quiet (fail)
                go_wp2
                go_ret
                exact ⟨by first | rfl | (simp; done), bn (bn B2.out _) _⟩
              · have z1 : decide (wi < wk) = false := decide_eq_false cl
                have ho := ho2 (by omega)
                have z2 : decide (li ≥ lk) = true := decide_eq_true (by omega)
                have z2' : decide (lk ≤ li) = true := decide_eq_true (by omega)
                clear ho1 ho2 cw cl ho
                go_wp2_with fail
                go_quiet (fail)
                go_wp2_with fail
                go_quiet (fail)
                go_wp2
                go_ret
                exact ⟨by first | rfl | (simp; done), bn (bn B2.out _) _⟩
  · have hr : hamR t ws = [] := by unfold hamR; rw [if_neg he]
    rw [hr] at C1
    have hne : (allE t ws != 0) = true := by simp [he]
    have hne2 : (allE t ws == 0) = false := beq_eq_false_iff_ne.2 he
    obtain ⟨a, cap, rfl, _, _, _⟩ := h
    generalize allE t ws = E at *
    clear hr he
    go_enter Try.func6, Try.ntmps6
    go_wp2_with fail
    refine (C1.out _ _ HV.out).mono ?_
    rintro en w1 ⟨u1, rfl, o1, b1⟩
    obtain ⟨a1, c1, f1⟩ := own_shapeZ o1
    subst f1
    have R1 := Lib.hid o1.rd; have B1 := Lib.hid b1
    clear o1 b1
    go_wp2_with fail
    refine (CB.out _).mono ?_
    rintro en w2 ⟨rfl, b2⟩
    have R2 := Lib.hid (R1.out.below b2); have B2 := Lib.hid (bt B1.out b2)
    clear b2 R1 B1
    go_wp2
    go_ret
    exact ⟨by first | rfl | (simp; done), B2.out⟩
theorem order_end (t : Int) (v : Value) (ws : List Int) (i k : Int) (w : World) (_ : (Lit.int .i64 t).wf = true) (h : RdE elZ w v ws) (_ : (Lit.int .i64 i).wf = true) (_ : (Lit.int .i64 k).wf = true) : Calls Try.prog 6 #[.int .i64 t, v, .int .i64 i, .int .i64 k] w fun e w' => e = .returned (.bool true) ∧ Below w.heap.size w w' := order_walk t v ws i k w h
end Sh
end Go.Proofs.Ytblbhkcnmkcdfaa
