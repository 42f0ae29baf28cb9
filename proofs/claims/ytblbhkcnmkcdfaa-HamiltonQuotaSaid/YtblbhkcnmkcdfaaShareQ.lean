/- What is shared out: HamiltonQuota. -/
import Derived.Test.YtblbhkcnmkcdfaaShareJ
set_option linter.unusedSimpArgs false
set_option linter.unusedVariables false
namespace Go.Proofs.Ytblbhkcnmkcdfaa
open Go.RowKit
namespace Sh
open Stb
theorem hamR_sum {t : Int} {ws : List Int} (he : allE t ws = 0) : sumN ws.length (fun i => (hamR t ws).getD i 0) = t := by
  rw [sumN_congr (fun k hk => hamR_at he k hk)]
  exact ham_sum he
set_option maxRecDepth 100000 in
set_option maxHeartbeats 8000000 in
theorem quota_walk (t : Int) (v : Value) (ws : List Int) (w : World) (h : RdE elZ w v ws) : Calls Try.prog 5 #[.int .i64 t, v] w (BoolZ true w) := by
  have HV := Lib.hid h
  have C1 := Lib.hid (fun v w h => ham_any v t ws w h)
  have CB := Lib.hid begun_any
  by_cases he : allE t ws = 0
  · have hn0 := len_pos he
    obtain ⟨q1, q2, q3, q4, q5, q6⟩ := allE_ok he
    have HLN := Lib.hid (hamR_len he)
    have CT := Lib.hid (fun v w h => tot_any v ws w h q1 (fun j hj => by have := wv_ok q4 j; unfold wv at this; omega))
    have CT2 := Lib.hid (fun v w h => tot_any v (hamR t ws) w h (by rw [hamR_len he]; omega) (fun i hi => by have := ham_bd he i (by rw [hamR_len he] at hi; exact hi); omega))
    rw [hamR_len he, hamR_sum he] at CT2
    rw [he] at C1
    have HQU := Lib.hid (fun i hi => ham_quota he i hi)
    have HBD := Lib.hid (fun i hi => ham_bd he i hi)
    have HWB := Lib.hid (fun i => wv_ok q4 i)
    have hS := (sumW_bd (ws := ws) (k := ws.length) (fun j _ => wv_ok q4 j)).2
    have e1 : sumN ws.length (fun j => ws.getD j 0) = sumW ws ws.length := rfl
    rw [e1] at CT
    generalize hamR t ws = R at *
    obtain ⟨S, hSS⟩ : ∃ S, sumW ws ws.length = S := ⟨_, rfl⟩
    rw [hSS] at CT HQU hS q5
    have hS2 : S ≤ 3200000 := by omega
    obtain ⟨a, cap, rfl, _, _, _⟩ := h
    have ln : ((ws.length : Int) == (ws.length : Int)) = true := by simp
    have tn : (t == t) = true := by simp
    clear he q4 q6 e1 hSS hS
    go_enter Try.func5, Try.ntmps5
    go_wp2_with fail
    refine (C1.out _ _ HV.out).mono ?_
    rintro en w1 ⟨u1, rfl, o1, b1⟩
    obtain ⟨a1, c1, f1⟩ := own_shapeZ o1
    rw [HLN.out] at f1
    subst f1
    have R1 := Lib.hid o1.rd; have B1 := Lib.hid b1
    clear o1 b1
    go_wp2_with fail
    refine (CB.out _).mono ?_
    rintro en w2 ⟨rfl, b2⟩
    have R2 := Lib.hid (R1.out.below b2); have B2 := Lib.hid (bt B1.out b2)
    clear b2 R1 B1
    go_wp2_with fail
    refine (CT.out _ _ (HV.out.below B2.out)).mono ?_
    rintro en w3 ⟨rfl, rfl⟩
    obtain ⟨ga, oa, ea, hga, hca⟩ := rd_cell R2.out HLN.out hn0
    obtain ⟨gb, ob, eb, hgb, hcb⟩ := rd_cell (HV.out.below B2.out) rfl hn0
    subst ea eb
    have HCA := Lib.hid hca; have HCB := Lib.hid hcb
    clear hca hcb CT C1 CB
    go_wp2
    go_loopw [8] (fun s8 wr => ∃ k : Nat, k ≤ ws.length ∧ s8 = .int .i64 k ∧ ∃ q, wr = w2.drewN q) (fun s8 _ => ws.length - (intOf s8).toNat)
    case atStart => exact ⟨0, Nat.zero_le _, rfl, 0, rfl⟩
    case round =>
      obtain ⟨k, hk, rfl, q, rfl⟩ := hrel
      by_cases hlt : k < ws.length
      · have l0 := HCA.out k hlt
        have w0 := HCB.out k hlt
        have hqu := HQU.out k hlt
        have hbi := HBD.out k hlt
        have hwi := HWB.out k
        unfold wv at hqu hwi
        obtain ⟨li, e1⟩ : ∃ x, R.getD k 0 = x := ⟨_, rfl⟩
        obtain ⟨wi, e3⟩ : ∃ x, ws.getD k 0 = x := ⟨_, rfl⟩
        rw [e1] at l0 hqu hbi; rw [e3] at w0 hqu hwi
        clear e1 e3
        have i1 : (k : Int) < (ws.length : Int) := by omega
        have i0 : (0 : Int) ≤ (k : Int) := by omega
        obtain ⟨P, hP⟩ : ∃ P, li * S = P := ⟨_, rfl⟩
        obtain ⟨Q, hQ⟩ : ∃ Q, t * wi = Q := ⟨_, rfl⟩
        have hPb : 0 ≤ P ∧ P ≤ 320003200000 := by
          rw [← hP]
          refine ⟨Int.mul_nonneg (by omega) (by omega), ?_⟩
          have h1 : li * S ≤ li * 3200000 := Int.mul_le_mul_of_nonneg_left hS2 (by omega)
          omega
        have hQb : 0 ≤ Q ∧ Q ≤ 10000000000 := by
          rw [← hQ]
          refine ⟨Int.mul_nonneg q2 hwi.1, ?_⟩
          have h1 : t * wi ≤ t * 100000 := Int.mul_le_mul_of_nonneg_left hwi.2 q2
          omega
        rw [hP, hQ] at hqu
        obtain ⟨u1, u2, u3⟩ := hqu
        have x3 : IntKind.i64.wrap (li * S) = P := by rw [hP]; exact IntWalk.i64_in _ (by omega)
        have x4 : IntKind.i64.wrap (t * wi) = Q := by rw [hQ]; exact IntWalk.i64_in _ (by omega)
        have x5 : IntKind.i64.wrap (Q - S) = Q - S := IntWalk.i64_in _ (by omega)
        have x6 : IntKind.i64.wrap (Q + S) = Q + S := IntWalk.i64_in _ (by omega)
        have x7 : decide (P ≤ Q - S) = false := decide_eq_false (by omega)
        have x8 : decide (P ≥ Q + S) = false := decide_eq_false (by omega)
        have x8' : decide (Q + S ≤ P) = false := decide_eq_false (by omega)
        by_cases cz : wi = 0
        · have z1 : (wi == 0) = true := beq_iff_eq.2 cz
          have z2 : (li != 0) = false := by have := u3 cz; simp [this]
          clear hP hQ hPb hQb u1 u2 u3 cz hbi hwi
          go_wp2_with fail
          go_quiet (fail)
          go_wp2
          go_roundw
          case rel => exact ⟨k + 1, by omega, by go_num, _, by first | rfl | (rw [World.drewN_drewN])⟩
          case measure => simp [intOf]; omega
        · have z1 : (wi == 0) = false := beq_eq_false_iff_ne.2 cz
          clear hP hQ hPb hQb u1 u2 u3 cz hbi hwi
          go_wp2_with fail
          go_quiet (fail)
          go_wp2
          go_roundw
          case rel => exact ⟨k + 1, by omega, by go_num, _, by first | rfl | (rw [World.drewN_drewN])⟩
          case measure => simp [intOf]; omega
      · have ek : k = ws.length := by omega
        subst ek
        have RD := Lib.hid (R2.out.below (bn (br w2) q))
        go_wp2_with fail
        refine (CT2.out _ _ RD.out).mono ?_
        rintro en w3 ⟨rfl, rfl⟩
        go_wp2
        go_ret
        exact ⟨by first | rfl | (simp; done), bn B2.out q⟩
  · have hr : hamR t ws = [] := by unfold hamR; rw [if_neg he]
    rw [hr] at C1
    have hne : (allE t ws != 0) = true := by simp [he]
    obtain ⟨a, cap, rfl, _, _, _⟩ := h
    generalize allE t ws = E at *
    clear hr he
    go_enter Try.func5, Try.ntmps5
    go_wp2_with fail
    refine (C1.out _ _ HV.out).mono ?_
    rintro en w1 ⟨u1, rfl, o1, b1⟩
    obtain ⟨a1, c1, f1⟩ := own_shapeZ o1
    subst f1
    have B1 := Lib.hid b1
    clear o1 b1
    go_wp2_with fail
    refine (CB.out _).mono ?_
    rintro en w2 ⟨rfl, b2⟩
    have B2 := Lib.hid (bt B1.out b2)
    clear b2
    go_wp2
    go_ret
    exact ⟨by first | rfl | (simp; done), B2.out⟩
theorem quota_end (t : Int) (v : Value) (ws : List Int) (w : World) (_ : (Lit.int .i64 t).wf = true) (h : RdE elZ w v ws) : Calls Try.prog 5 #[.int .i64 t, v] w fun e w' => e = .returned (.bool true) ∧ Below w.heap.size w w' := quota_walk t v ws w h
end Sh
end Go.Proofs.Ytblbhkcnmkcdfaa
