/- What is shared out: totals; EvenWhole. -/
import Derived.Test.YtblbhkcnmkcdfaaShareL
import Derived.Test.YtblbhkcnmkcdfaaSharePlain2
set_option linter.unusedSimpArgs false
set_option linter.unusedVariables false
namespace Go.Proofs.Ytblbhkcnmkcdfaa
open Go.RowKit
namespace Sh
open Stb
theorem sumN_bd2 {g : Nat → Int} (n : Nat) (B : Int) (h : ∀ k, k < n → 0 ≤ g k ∧ g k ≤ B) (k : Nat) (hk : k ≤ n) : 0 ≤ sumN k g ∧ sumN k g ≤ k * B :=
  ⟨sumN_nonneg k (fun j hj => (h j (by omega)).1), sumN_bd k B (fun j hj => (h j (by omega)).2)⟩
set_option maxHeartbeats 2000000 in
theorem tot_any (v : Value) (xs : List Int) (w : World) (h : RdE elZ w v xs) (hn : xs.length ≤ 32) (hb : ∀ i, i < xs.length → 0 ≤ xs.getD i 0 ∧ xs.getD i 0 ≤ 1099511627777) : Calls Try.prog 18 #[v] w fun e w' => e = .returned (.int .i64 (sumN xs.length (fun i => xs.getD i 0))) ∧ w = w' := by
  obtain ⟨a, cap, rfl, h1, h2, h3⟩ := h
  have H3 := Lib.hid h3; have HB := Lib.hid hb
  have HS := Lib.hid (fun k hk => sumN_bd2 xs.length 1099511627777 hb k hk)
  clear h3 hb
  go_enter Try.func18, Try.ntmps18
  go_wp2
  go_loopw [3, 4] (fun s3 s4 wr => ∃ k : Nat, k ≤ xs.length ∧ s4 = .int .i64 k ∧ s3 = .int .i64 (sumN k (fun i => xs.getD i 0)) ∧ w = wr) (fun _ s4 _ => xs.length - (intOf s4).toNat)
  case atStart => exact ⟨0, Nat.zero_le _, rfl, rfl, rfl⟩
  case round =>
    obtain ⟨k, hk, rfl, rfl, rfl⟩ := hrel
    by_cases hlt : k < xs.length
    · obtain ⟨g, off, rfl, hbl, hc⟩ := H3.out (by omega)
      have d0 := eI_at hc k hlt
      have hx := HB.out k hlt
      have hs := HS.out k hk
      have HSU : RowKit.Hid (sumN (k + 1) (fun i => xs.getD i 0) = sumN k (fun i => xs.getD i 0) + xs.getD k 0) := Lib.hid rfl
      have e : xs.getD k 0 = xs[k] := by simp [List.getD, hlt]
      rw [← e] at d0
      clear e hc
      generalize xs.getD k 0 = x at *
      obtain ⟨s, hss⟩ : ∃ s, sumN k (fun i => xs.getD i 0) = s := ⟨_, rfl⟩
      rw [hss] at hs HSU ⊢
      clear hss
      have i1 : (k : Int) < (xs.length : Int) := by omega
      have i0 : (0 : Int) ≤ (k : Int) := by omega
      obtain ⟨x0, x1⟩ := hx; obtain ⟨s0, s1⟩ := hs
      have s2 : s ≤ 35184372088864 := by omega
      clear s1
      go_wp2
      go_roundw
      case rel => exact ⟨k + 1, by omega, by go_num, by rw [HSU.out], by first | rfl | trivial⟩
      case measure => simp [intOf]; omega
    · have ek : k = xs.length := by omega
      subst ek
      go_wp2
      go_ret
      exact ⟨by first | rfl | (simp; done), by first | rfl | trivial⟩
set_option maxRecDepth 100000 in
set_option maxHeartbeats 8000000 in
theorem even_walk (t m : Int) (w : World) : Calls Try.prog 4 #[.int .i64 t, .int .i64 m] w (BoolZ true w) := by
  have C1 := Lib.hid (even_any t m)
  have CB := Lib.hid begun_any
  by_cases he : evenE t m = 0
  · obtain ⟨g1, g2, g3, g4⟩ := evenE_ok he
    have hr : evenR t m = evenL t m m.toNat := by unfold evenR; rw [if_pos he]
    rw [hr, he] at C1
    clear hr he
    obtain ⟨n, rfl⟩ : ∃ n : Nat, m = n := ⟨m.toNat, by omega⟩
    rw [Int.toNat_natCast] at C1
    have HP := Lib.hid (fun k => evenP_bd t n k (by omega) g1 g2)
    have HAT : RowKit.Hid (∀ k, k < n → (evenL t n n).getD k 0 = evenP t n k) := Lib.hid (fun k hk => by simp [evenL, hk])
    have HLN : RowKit.Hid ((evenL t n n).length = n) := Lib.hid (evenL_len _ _ _)
    have HSUM : RowKit.Hid (sumN n (fun i => (evenL t n n).getD i 0) = t) := Lib.hid (by
      rw [sumN_congr (fun k hk => HAT.out k hk)]
      show sumN n (evenP t n) = t
      rw [sum_even t n (by omega) n]
      have : leftE t n n = 0 := by
        unfold leftE
        have h2 := Int.emod_lt_of_pos t (show (0 : Int) < n by omega)
        rw [if_neg (by omega)]; simp
      omega)
    have HCMP : RowKit.Hid (∀ k, evenP t n k ≤ evenP t n 0 ∧ evenP t n 0 - 1 ≤ evenP t n k ∧ (0 < k → evenP t n k ≤ evenP t n (k - 1))) := Lib.hid (fun k => by
      unfold evenP
      refine ⟨?_, ?_, fun h => ?_⟩
      · split <;> split <;> omega
      · split <;> split <;> omega
      · split <;> split <;> omega)
    have CT := Lib.hid (fun v w h => tot_any v (evenL t n n) w h (by rw [evenL_len]; omega) (fun i hi => by rw [HAT.out i (by rw [evenL_len] at hi; exact hi)]; exact HP.out i))
    rw [HLN.out, HSUM.out] at CT
    generalize evenL t n n = R at *
    go_enter Try.func4, Try.ntmps4
    go_wp2_with fail
    refine (C1.out _).mono ?_
    rintro en w1 ⟨u1, rfl, o1, b1⟩
    obtain ⟨a1, c1, f1⟩ := own_shapeZ o1
    rw [HLN.out] at f1
    subst f1
    have R1 := Lib.hid o1.rd; have B1 := Lib.hid b1
    clear o1 b1
    go_wp2_with fail
    refine (CB.out _).mono ?_
    rintro en w2 ⟨rfl, b2⟩
    have R2 := Lib.hid (R1.out.below b2); have B2 := Lib.hid (bt B1.out b2)
    clear b2 R1 B1 C1 CB
    go_wp2
    go_loopw [7] (fun s7 wr => ∃ k : Nat, k ≤ n ∧ s7 = .int .i64 k ∧ ∃ q, wr = w2.drewN q) (fun s7 _ => n - (intOf s7).toNat)
    case atStart => exact ⟨0, Nat.zero_le _, rfl, 0, rfl⟩
    case round =>
      obtain ⟨k, hk, rfl, q, rfl⟩ := hrel
      by_cases hlt : k < n
      · obtain ⟨a', cap', e, _, _, h3⟩ := R2.out
        injection e with e1 e2 e3
        subst e1
        obtain ⟨g, off, e, hbl, hc⟩ := h3 (by rw [HLN.out]; omega)
        subst e
        have cel : ∀ j, j < n → w2.cell? ⟨g, off + j, none⟩ = some (.int .i64 (evenP t n j)) := fun j hj => by
          have hj2 : j < R.length := by rw [HLN.out]; exact hj
          have := eI_at hc j hj2
          rw [← HAT.out j hj]
          simpa [List.getD, hj2] using this
        have d0 := cel 0 (by omega)
        rw [Nat.add_zero] at d0
        have dk := cel k hlt
        have hcm := HCMP.out k
        have hpk := HP.out k
        have hp0 := HP.out 0
        have i1 : (k : Int) < (n : Int) := by omega
        have i0 : (0 : Int) ≤ (k : Int) := by omega
        have iz : (0 : Int) < (n : Int) := by omega
        by_cases hk0 : k = 0
        · subst hk0
          clear cel hc dk e2 e3 h3
          generalize evenP t n 0 = x at *
          have x1 : decide (x > x) = false := decide_eq_false (by omega)
          have x1' : decide (x < x) = false := decide_eq_false (by omega)
          have x2 : decide (x < x - 1) = false := decide_eq_false (by omega)
          have x3 : decide (x < 0) = false := decide_eq_false (by omega)
          have x4 : IntKind.i64.wrap (x - 1) = x - 1 := IntWalk.i64_in _ (by omega)
          clear hcm
          go_wp2_with fail
          go_quiet (fail)
          go_wp2
          go_roundw
          case rel => exact ⟨1, by omega, by first | rfl | go_num, _, by first | rfl | (rw [World.drewN_drewN])⟩
          case measure => simp [intOf]; omega
        · have dp := cel (k - 1) (by omega)
          have hcp := hcm.2.2 (by omega)
          clear cel hc e2 e3 h3
          obtain ⟨x, hx⟩ : ∃ x, evenP t n k = x := ⟨_, rfl⟩
          obtain ⟨y, hy⟩ : ∃ y, evenP t n 0 = y := ⟨_, rfl⟩
          obtain ⟨z, hz⟩ : ∃ z, evenP t n (k - 1) = z := ⟨_, rfl⟩
          rw [hx] at dk hcm hpk hcp; rw [hy] at d0 hcm hp0; rw [hz] at dp hcp
          clear hx hy hz
          have j0 : (k : Int) > 0 := by omega
          have j0' : (0 : Int) < (k : Int) := by omega
          have j0'' : 0 < k := by omega
          obtain ⟨p, hp⟩ : ∃ p, k - 1 = p := ⟨_, rfl⟩
          rw [hp] at dp
          have jp : (k : Int) - 1 = (p : Int) := by omega
          have j1 : IntKind.i64.wrap ((k : Int) - 1) = (p : Int) := by rw [jp]; exact IntWalk.i64_in _ (by omega)
          have j3 : (0 : Int) ≤ (p : Int) := by omega
          have j4 : (p : Int) < (n : Int) := by omega
          clear hp
          have x1 : decide (x > y) = false := decide_eq_false (by omega)
          have x1' : decide (y < x) = false := decide_eq_false (by omega)
          have x2 : decide (x < y - 1) = false := decide_eq_false (by omega)
          have x3 : decide (x < 0) = false := decide_eq_false (by omega)
          have x4 : IntKind.i64.wrap (y - 1) = y - 1 := IntWalk.i64_in _ (by omega)
          have x5 : decide (x > z) = false := decide_eq_false (by omega)
          have x5' : decide (z < x) = false := decide_eq_false (by omega)
          clear hcm hcp hpk hp0
          go_wp2_with fail
          go_quiet (fail)
          go_wp2
          go_roundw
          case rel => exact ⟨k + 1, by omega, by go_num, _, by first | rfl | (rw [World.drewN_drewN])⟩
          case measure => simp [intOf]; omega
      · have ek : k = n := by omega
        subst ek
        have e1 : ((k : Int) == (k : Int)) = true := by simp
        have e2 : (t == t) = true := by simp
        have RD := Lib.hid (R2.out.below (bn (br w2) q))
        go_wp2_with fail
        refine (CT.out _ _ RD.out).mono ?_
        rintro en w3 ⟨rfl, rfl⟩
        go_wp2
        go_ret
        exact ⟨by first | rfl | (simp; done), bn B2.out q⟩
  · have hr : evenR t m = [] := by unfold evenR; rw [if_neg he]
    rw [hr] at C1
    have hne : (evenE t m != 0) = true := by simp [he]
    generalize evenE t m = E at *
    clear hr he
    go_enter Try.func4, Try.ntmps4
    go_wp2_with fail
    refine (C1.out _).mono ?_
    rintro en w1 ⟨u1, rfl, o1, b1⟩
    obtain ⟨a1, c1, f1⟩ := own_shapeZ o1
    subst f1
    have B1 := Lib.hid b1
    clear o1 b1
    go_wp2_with fail
    refine (CB.out _).mono ?_
    rintro en w2 ⟨rfl, b2⟩
    have B2 := Lib.hid (bt B1.out b2)
    clear b2
    go_wp2
    go_ret
    exact ⟨by first | rfl | (simp; done), B2.out⟩
theorem even_end (t m : Int) (w : World) (_ : (Lit.int .i64 t).wf = true) (_ : (Lit.int .i64 m).wf = true) : Calls Try.prog 4 #[.int .i64 t, .int .i64 m] w fun e w' => e = .returned (.bool true) ∧ Below w.heap.size w w' := even_walk t m w
end Sh
end Go.Proofs.Ytblbhkcnmkcdfaa
