/- What is shared out: JeffersonHouse, JeffersonBest. -/
import Derived.Test.YtblbhkcnmkcdfaaShareT
set_option linter.unusedSimpArgs false
set_option linter.unusedVariables false
namespace Go.Proofs.Ytblbhkcnmkcdfaa
open Go.RowKit
namespace Sh
open Stb
theorem jefR_len {t : Int} {ws : List Int} (he : allE t ws = 0) : (jefR t ws).length = ws.length := by unfold jefR; rw [if_pos he]; exact lst_len _ _
theorem jefR_at {t : Int} {ws : List Int} (he : allE t ws = 0) (i : Nat) (hi : i < ws.length) : (jefR t ws).getD i 0 = jf ws ws.length t.toNat i := by unfold jefR; rw [if_pos he]; simp [lst, hi]
theorem jefR_bd {t : Int} {ws : List Int} (he : allE t ws = 0) (i : Nat) (hi : i < ws.length) : 0 ≤ (jefR t ws).getD i 0 ∧ (jefR t ws).getD i 0 ≤ 100000 := by
  obtain ⟨_, h2, h3, _⟩ := allE_ok he
  rw [jefR_at he i hi]
  have := jf_bd ws ws.length t.toNat i
  omega
theorem jefR_sum {t : Int} {ws : List Int} (he : allE t ws = 0) : sumN ws.length (fun i => (jefR t ws).getD i 0) = t := by
  obtain ⟨_, h2, _⟩ := allE_ok he
  rw [sumN_congr (fun k hk => jefR_at he k hk)]
  show sumN ws.length (jf ws ws.length t.toNat) = t
  rw [jf_sum ws ws.length (len_pos he)]
  omega
/-- a law's head: the error -/
theorem rd_cell {w : World} {a : Option Addr} {n c : Nat} {xs : List Int} (h : RdE elZ w (.slice a n c) xs) (hn : xs.length = n) (h0 : 0 < n) : ∃ g off, a = some ⟨g, off, none⟩ ∧ g < w.heap.size ∧ ∀ j, j < n → w.cell? ⟨g, off + j, none⟩ = some (.int .i64 (xs.getD j 0)) := by
  obtain ⟨a', cap', e, _, _, h3⟩ := h
  injection e with e1 e2 e3
  subst e1
  obtain ⟨g, off, e, hbl, hc⟩ := h3 (by omega)
  refine ⟨g, off, e, hbl, fun j hj => ?_⟩
  have hj2 : j < xs.length := by omega
  have := eI_at hc j hj2
  simpa [List.getD, hj2] using this
set_option maxRecDepth 100000 in
set_option maxHeartbeats 8000000 in
theorem house_walk (t : Int) (v : Value) (ws : List Int) (w : World) (h : RdE elZ w v ws) : Calls Try.prog 7 #[.int .i64 t, v] w (BoolZ true w) := by
  have HV := Lib.hid h
  have C1 := Lib.hid (fun v w h => jef_any v t ws w h)
  have CB := Lib.hid begun_any
  by_cases he : allE t ws = 0
  · have hn0 := len_pos he
    obtain ⟨q1, q2, q3, q4, q5, q6⟩ := allE_ok he
    have HLN := Lib.hid (jefR_len he)
    have CT := Lib.hid (fun v w h => tot_any v (jefR t ws) w h (by rw [jefR_len he]; omega) (fun i hi => by have := jefR_bd he i (by rw [jefR_len he] at hi; exact hi); omega))
    rw [jefR_len he, jefR_sum he] at CT
    rw [he] at C1
    have HBA := Lib.hid (fun i hi => jefR_bd he i hi)
    have C2 := Lib.hid (fun v w h => jef_any v (t + 1) ws w h)
    have HE2 : RowKit.Hid (t ≠ 100000 → allE (t + 1) ws = 0) := Lib.hid (fun hne => by
      unfold allE
      rw [if_neg (by omega), if_neg (by omega), if_pos q4, if_neg (by unfold sumW at *; omega)])
    obtain ⟨a, cap, rfl, _, _, _⟩ := h
    by_cases ct : t = 100000
    · have ct' : (t == 100000) = true := by simp [ct]
      have CTT := Lib.hid ct
      generalize jefR t ws = R at *
      have tn : (t != t) = false := by simp
      have ln : ((ws.length : Int) != (ws.length : Int)) = false := by simp
      clear ct he q4 q5 q6
      go_enter Try.func7, Try.ntmps7
      go_wp2_with fail
      refine (C1.out _ _ HV.out).mono ?_
      rintro en w1 ⟨u1, rfl, o1, b1⟩
      obtain ⟨a1, c1, f1⟩ := own_shapeZ o1
      rw [HLN.out] at f1
      subst f1
      have R1 := Lib.hid o1.rd; have B1 := Lib.hid b1
      clear o1 b1
      go_wp2_with fail
      refine (CB.out _).mono ?_
      rintro en w2 ⟨rfl, b2⟩
      have R2 := Lib.hid (R1.out.below b2); have B2 := Lib.hid (bt B1.out b2)
      clear b2 R1 B1
      go_wp2_with fail
      refine (CT.out _ _ R2.out).mono ?_
      rintro en w3 ⟨rfl, rfl⟩
      go_wp2
      go_ret
      exact ⟨by first | rfl | (simp; done), B2.out⟩
    · have ct' : (t == 100000) = false := beq_eq_false_iff_ne.2 ct
      have he2 := HE2.out ct
      have HLN2 := Lib.hid (jefR_len he2)
      have HBB := Lib.hid (fun i hi => jefR_bd he2 i hi)
      -- how they differ
      have HDF : RowKit.Hid (∃ b, b < ws.length ∧ ∀ i, i < ws.length → (jefR (t + 1) ws).getD i 0 = (jefR t ws).getD i 0 + if i = b then 1 else 0) := Lib.hid (by
        have hb := best_le ws (jf ws ws.length t.toNat) (ws.length - 1)
        refine ⟨best ws (jf ws ws.length t.toNat) (ws.length - 1), by omega, fun i hi => ?_⟩
        rw [jefR_at he2 i hi, jefR_at he i hi, show (t + 1).toNat = t.toNat + 1 by omega]
        simp only [jf]
        split <;> omega)
      rw [he2] at C2
      have tn : (t != t) = false := by simp
      have ln : ((ws.length : Int) != (ws.length : Int)) = false := by simp
      obtain ⟨b, hb, HD⟩ := HDF.out
      have HDD := Lib.hid HD
      generalize jefR (t + 1) ws = R' at *
      generalize jefR t ws = R at *
      clear ct he he2 q4 q5 q6 HDF HD HE2
      have tb : t ≤ 100000 := q3
      go_enter Try.func7, Try.ntmps7
      go_wp2_with fail
      refine (C1.out _ _ HV.out).mono ?_
      rintro en w1 ⟨u1, rfl, o1, b1⟩
      obtain ⟨a1, c1, f1⟩ := own_shapeZ o1
      rw [HLN.out] at f1
      subst f1
      have R1 := Lib.hid o1.rd; have B1 := Lib.hid b1
      clear o1 b1
      go_wp2_with fail
      refine (CB.out _).mono ?_
      rintro en w2 ⟨rfl, b2⟩
      have R2 := Lib.hid (R1.out.below b2); have B2 := Lib.hid (bt B1.out b2)
      clear b2 R1 B1
      go_wp2_with fail
      refine (CT.out _ _ R2.out).mono ?_
      rintro en w3 ⟨rfl, rfl⟩
      go_wp2_with fail
      refine (C2.out _ _ (HV.out.below B2.out)).mono ?_
      rintro en w3 ⟨u3, rfl, o3, b3⟩
      obtain ⟨a3, c3, f3⟩ := own_shapeZ o3
      rw [HLN2.out] at f3
      subst f3
      have R3 := Lib.hid o3.rd; have R4 := Lib.hid (R2.out.below b3); have B3 := Lib.hid (bt B2.out b3)
      clear o3 b3 R2 B2 C1 C2 CT CB
      obtain ⟨ga, oa, ea, hga, hca⟩ := rd_cell R4.out HLN.out hn0
      obtain ⟨gb, ob, eb, hgb, hcb⟩ := rd_cell R3.out HLN2.out hn0
      subst ea eb
      have HCA := Lib.hid hca; have HCB := Lib.hid hcb
      clear hca hcb
      go_wp2
      go_loopw [9, 10] (fun s9 s10 wr => ∃ k : Nat, k ≤ ws.length ∧ s10 = .int .i64 k ∧ s9 = .int .i64 (if b < k then 1 else 0) ∧ ∃ q, wr = w3.drewN q) (fun _ s10 _ => ws.length - (intOf s10).toNat)
      case atStart => exact ⟨0, Nat.zero_le _, rfl, by simp, 0, rfl⟩
      case round =>
        obtain ⟨k, hk, rfl, rfl, q, rfl⟩ := hrel
        by_cases hlt : k < ws.length
        · have d0 := HCA.out k hlt
          have d1 := HCB.out k hlt
          have hd := HDD.out k hlt
          have ba := HBA.out k hlt
          obtain ⟨x, hx⟩ : ∃ x, R.getD k 0 = x := ⟨_, rfl⟩
          obtain ⟨y, hy⟩ : ∃ y, R'.getD k 0 = y := ⟨_, rfl⟩
          rw [hx] at d0 hd ba; rw [hy] at d1 hd
          clear hx hy
          have i1 : (k : Int) < (ws.length : Int) := by omega
          have i0 : (0 : Int) ≤ (k : Int) := by omega
          have y1 : decide (y < x) = false := decide_eq_false (by split at hd <;> omega)
          have y2 : decide (y > x + 1) = false := decide_eq_false (by split at hd <;> omega)
          have y2' : decide (x + 1 < y) = false := decide_eq_false (by split at hd <;> omega)
          have x4 : IntKind.i64.wrap (x + 1) = x + 1 := IntWalk.i64_in _ (by omega)
          obtain ⟨m, hm⟩ : ∃ m : Int, (if b < k then (1 : Int) else 0) = m := ⟨_, rfl⟩
          have hmb : 0 ≤ m ∧ m ≤ 1 := by rw [← hm]; split <;> omega
          have yb : y ≤ 100001 ∧ 0 ≤ y := by split at hd <;> omega
          obtain ⟨z, hz⟩ : ∃ z, y - x = z := ⟨_, rfl⟩
          have HNX : RowKit.Hid (m + z = (if b < k + 1 then (1 : Int) else 0)) := Lib.hid (by
            rw [← hm, ← hz, hd]
            by_cases c1 : k = b
            · rw [if_pos c1, if_neg (by omega), if_pos (by omega)]; omega
            · rw [if_neg c1]
              by_cases c2 : b < k
              · rw [if_pos c2, if_pos (by omega)]; omega
              · rw [if_neg c2, if_neg (by omega)]; omega)
          rw [hm]
          have x5 : IntKind.i64.wrap (y - x) = z := by rw [hz]; exact IntWalk.i64_in _ (by omega)
          have x6 : IntKind.i64.wrap (m + z) = m + z := IntWalk.i64_in _ (by omega)
          clear hm hd hz
          obtain ⟨m0, m1⟩ := hmb
          obtain ⟨ba0, ba1⟩ := ba
          obtain ⟨yb0, yb1⟩ := yb
          go_wp2_with fail
          go_quiet (fail)
          go_wp2_with fail
          go_quiet (fail)
          go_wp2
          go_roundw
          case rel => exact ⟨k + 1, by omega, by go_num, by rw [HNX.out], _, by first | rfl | (rw [World.drewN_drewN]) | (rw [World.drewN_drewN, World.drewN_drewN])⟩
          case measure => simp [intOf]; omega
        · have ek : k = ws.length := by omega
          subst ek
          rw [if_pos hb]
          go_wp2
          go_ret
          exact ⟨by first | rfl | (simp; done), bn B3.out q⟩
  · have hr : jefR t ws = [] := by unfold jefR; rw [if_neg he]
    rw [hr] at C1
    have hne : (allE t ws != 0) = true := by simp [he]
    obtain ⟨a, cap, rfl, _, _, _⟩ := h
    generalize allE t ws = E at *
    clear hr he
    go_enter Try.func7, Try.ntmps7
    go_wp2_with fail
    refine (C1.out _ _ HV.out).mono ?_
    rintro en w1 ⟨u1, rfl, o1, b1⟩
    obtain ⟨a1, c1, f1⟩ := own_shapeZ o1
    subst f1
    have B1 := Lib.hid b1
    clear o1 b1
    go_wp2_with fail
    refine (CB.out _).mono ?_
    rintro en w2 ⟨rfl, b2⟩
    have B2 := Lib.hid (bt B1.out b2)
    clear b2
    go_wp2
    go_ret
    exact ⟨by first | rfl | (simp; done), B2.out⟩
theorem house_end (t : Int) (v : Value) (ws : List Int) (w : World) (_ : (Lit.int .i64 t).wf = true) (h : RdE elZ w v ws) : Calls Try.prog 7 #[.int .i64 t, v] w fun e w' => e = .returned (.bool true) ∧ Below w.heap.size w w' := house_walk t v ws w h
end Sh
end Go.Proofs.Ytblbhkcnmkcdfaa
