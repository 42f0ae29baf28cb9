/- Spelling: the document's: a text spelled, bit by bit; great letters as small ones. -/
import Derived.Test.YtkanlfgomfibdaaDoorSpellRef
set_option linter.unusedSimpArgs false
set_option linter.unusedVariables false
namespace Go.Proofs.YtkanlfgomfibdaaDoor
open Go.RowKit
namespace Sl
open Bt
theorem letter_cut : ∀ x < 32, lettersB.extract x (x + 1) = sB [letter x] := by decide +kernel
theorem slice_letter (x : Nat) (h : x < 32) (w : World) : (Instr.slice 9 (.string lettersB) (some (.int .i64 (x : Int))) (some (.int .i64 ((x : Int) + 1))) none).run Tryd.prog w = .ok (.string (sB [letter x])) w := by
  have hz : lettersB.size = 32 := rfl
  have := run_slice_string (P := Tryd.prog) (w := w) 9 lettersB .i64 .i64 (x : Int) ((x : Int) + 1) Tryd.underlying9 (by omega) (by omega) (by rw [hz]; omega)
  rw [this]
  have e1 : ((x : Int) + 1).toNat = x + 1 := by omega
  rw [e1, Int.toNat_natCast, letter_cut x h]
theorem add_sB (a b : List Nat) (h : a.length + b.length ≤ 100000000) (w : World) : (Op.stringOp .add (sB a) (sB b)).run Tryd.prog w = .ok (.string (sB (a ++ b))) w := by
  have := run_string_add_sum (P := Tryd.prog) w (sB a) (sB b) (by rw [sB_size, sB_size]; omega)
  rw [sB_app] at this
  exact this
set_option maxRecDepth 100000 in
set_option maxHeartbeats 4000000 in
theorem spelled_any (s : ByteArray) (hs : s.size ≤ 1100000) (w : World) : Calls Tryd.prog 10 #[.string s] w fun e w' => e = .returned (.string (sB (rawF (nt s)))) ∧ Below w.heap.size w w' := by
  have hba := fun i hi w => bitAt_any s (by omega) i hi w
  have hfl := fives_len (nt s)
  have hout : ∀ i, 8 * s.size ≤ i → bitL 8 (nt s) i = 0 := fun i hi => bitL_out (by omega) _ _ (by rw [nt_len]; exact hi)
  have hraw : rawF (nt s) = (grp (bitL 8 (nt s)) 5 (fit s.size)).map letter := by unfold rawF fives; rw [nt_len]
  rw [hraw]
  have hblt := bitL_lt 8 (nt s)
  generalize bitL 8 (nt s) = f at *
  have HBA := Lib.hid hba
  have HOUT := Lib.hid hout
  have HLT := Lib.hid hblt
  obtain ⟨RES, hRES⟩ : ∃ R, sB ((grp f 5 (fit s.size)).map letter) = R := ⟨_, rfl⟩
  rw [hRES]
  have HRES := Lib.hid hRES
  have hsl := slice_letter
  unfold lettersB at hsl
  have HSL := Lib.hid hsl
  have hlen8 : IntKind.i64.wrap (8 * (s.size : Int)) = 8 * (s.size : Int) := IntWalk.i64_in _ (by omega)
  have hle : (s.size : Int) ≤ 1100000 := by omega
  clear hba hout hblt hRES hraw hfl hsl
  go_enter Tryd.func10, Tryd.ntmps10
  go_wp2
  go_loopw [4, 5] (fun o fr wr => ∃ j : Nat, j ≤ fit s.size ∧ fr = .int .i64 ((5 * j : Nat) : Int) ∧ o = .string (sB ((grp f 5 j).map letter)) ∧ Below w.heap.size w wr) (fun _ fr _ => 8 * s.size + 5 - (intOf fr).toNat)
  case atStart => exact ⟨0, Nat.zero_le _, rfl, rfl, br w⟩
  case round =>
    obtain ⟨j, hj, rfl, rfl, hbw⟩ := hrel
    have hfit : fit s.size = (8 * s.size + 4) / 5 := rfl
    have hjc : ((5 * j : Nat) : Int) = 5 * (j : Int) := by omega
    rw [hjc]
    by_cases hlt : 5 * j < 8 * s.size
    · have i1 : 5 * (j : Int) < 8 * (s.size : Int) := by omega
      have hgs := grp_succ f 5 j
      have hgl := grp_len f 5 j
      have hj1 : j + 1 ≤ fit s.size := by omega
      have HJ1 := Lib.hid hj1
      generalize grp f 5 j = G at *
      have HGS := Lib.hid hgs
      have hgle : G.length ≤ 2000000 := by omega
      have HBW := Lib.hid hbw
      obtain ⟨T, hT⟩ : ∃ T, sB (G.map letter) = T := ⟨_, rfl⟩
      rw [hT]
      have HT := Lib.hid hT
      clear hgs hbw hT hfit hj hj1 hjc hgl
      go_wp2_with fail
      go_loopw [6, 7] (fun n k wy => ∃ q : Nat, q ≤ 5 ∧ k = .int .i64 q ∧ n = .int .i64 (val f (5 * j) q : Nat) ∧ Below w.heap.size w wy) (fun _ k _ => 5 - (intOf k).toNat)
      case atStart => exact ⟨0, by omega, rfl, rfl, HBW.out⟩
      case round =>
        obtain ⟨q, hq, rfl, rfl, hby⟩ := hrel
        have HBY := Lib.hid hby
        clear hby HBW
        by_cases hq5 : q < 5
        · have hv : val f (5 * j) (q + 1) = 2 * val f (5 * j) q + f (5 * j + q) := rfl
          have hvl : val f (5 * j) q < 32 := Nat.lt_of_lt_of_le (val_lt HLT.out _ _) (Nat.le_trans (Nat.pow_le_pow_right (by omega) (show q ≤ 5 by omega)) (by decide))
          have hfb := HLT.out (5 * j + q)
          obtain ⟨Z, hZ⟩ : ∃ Z, val f (5 * j) (q + 1) = Z := ⟨_, rfl⟩
          rw [hZ] at hv
          have HZ := Lib.hid hZ
          generalize val f (5 * j) q = V at *
          have i2 : (q : Int) < 5 := by omega
          have w1 : IntKind.i64.wrap ((V : Int) * 2) = (V : Int) * 2 := IntWalk.i64_in _ (by omega)
          have w2 : IntKind.i64.wrap (5 * (j : Int) + (q : Int)) = 5 * (j : Int) + (q : Int) := IntWalk.i64_in _ (by omega)
          by_cases hin : 5 * j + q < 8 * s.size
          · have i3 : 5 * (j : Int) + (q : Int) < 8 * (s.size : Int) := by omega
            have hc := fun w => HBA.out (5 * j + q) hin w
            have hcast : ((5 * j + q : Nat) : Int) = 5 * (j : Int) + (q : Int) := by omega
            rw [hcast] at hc
            generalize f (5 * j + q) = b at *
            have w3 : IntKind.i64.wrap ((V : Int) * 2 + (b : Int)) = (V : Int) * 2 + (b : Int) := IntWalk.i64_in _ (by omega)
            have HC := Lib.hid hc
            have HV := Lib.hid (show (V : Int) * 2 + (b : Int) = (Z : Int) by omega)
            clear hc hZ hv hcast hin
            go_wp2_with (first | (go_at_call 17; (with_reducible refine (HC.out _).mono ?_); rintro en w4 ⟨rfl, rfl⟩))
            go_roundw
            case rel => exact ⟨q + 1, by omega, by go_num, by rw [HZ.out, HV.out], HBY.out⟩
            case measure => simp [intOf]; omega
          · have i3 : ¬ 5 * (j : Int) + (q : Int) < 8 * (s.size : Int) := by omega
            have h0 := HOUT.out (5 * j + q) (by omega)
            have HV := Lib.hid (show (V : Int) * 2 = (Z : Int) by omega)
            clear hZ hv h0 hin hfb
            go_wp2
            go_roundw
            case rel => exact ⟨q + 1, by omega, by go_num, by rw [HZ.out, HV.out], HBY.out⟩
            case measure => simp [intOf]; omega
        · have e : q = 5 := by omega
          subst e
          have hvl : val f (5 * j) 5 < 32 := val_lt HLT.out _ _
          have hgs := HGS.out
          generalize val f (5 * j) 5 = V at *
          have hs1 := fun w => HSL.out V hvl w
          have hc1 := fun w => add_sB (G.map letter) [letter V] (by simp; omega) w
          rw [HT.out] at hc1
          have hgs2 : sB ((grp f 5 (j + 1)).map letter) = sB (G.map letter ++ [letter V]) := by rw [hgs, List.map_append]; rfl
          have HG2 := Lib.hid hgs2
          generalize sB (G.map letter ++ [letter V]) = T2 at *
          generalize sB [letter V] = C2 at *
          have w4 : IntKind.i64.wrap ((V : Int) + 1) = (V : Int) + 1 := IntWalk.i64_in _ (by omega)
          have w5 : IntKind.i64.wrap (5 * (j : Int) + 5) = 5 * (j : Int) + 5 := IntWalk.i64_in _ (by omega)
          have hv1 : (V : Int) + 1 ≤ 32 := by omega
          clear hgs hgs2 HSL
          go_wp2
          go_roundw
          case rel => exact ⟨j + 1, HJ1.out, by simp; omega, by rw [HG2.out], HBY.out⟩
          case measure => simp [intOf]; omega
    · have e : j = fit s.size := by omega
      subst e
      have i1 : ¬ 5 * ((fit s.size : Nat) : Int) < 8 * (s.size : Int) := by omega
      have HBW := Lib.hid hbw
      rw [HRES.out]
      clear hbw hfit
      generalize fit s.size = m at *
      go_wp2
      go_ret
      exact ⟨rfl, HBW.out⟩
theorem small_i (x : Nat) (h : x < 256) : small x < 256 := small_lt x h
set_option maxRecDepth 100000 in
set_option maxHeartbeats 2000000 in
theorem smaller_any (s : ByteArray) (hs : s.size ≤ 10000000) (w : World) : Calls Tryd.prog 13 #[.string s] w fun e w' => e = .returned (.string (sB ((nt s).map small))) ∧ Below w.heap.size w w' := by
  have hnl := nt_len s
  have hix : ∀ k (hk : k < s.size) (W : World), (Instr.index 9 (.string s) (.int .i64 (k : Int))).run Tryd.prog W = .ok (.int .u8 ((nt s).getD k 0 : Nat)) W := fun k hk W => by
    rw [idx_str s (k : Int) k rfl hk W, getD_lt (by rw [nt_len]; exact hk)]
    unfold nt
    rw [List.getElem_map]
    rfl
  have hlt := nt_lt s
  have HIX := Lib.hid hix; have HLT := Lib.hid hlt
  clear hix hlt
  generalize nt s = N at *
  have HNL := Lib.hid hnl
  obtain ⟨RES, hRES⟩ : ∃ R, sB (N.map small) = R := ⟨_, rfl⟩
  rw [hRES]
  have HRES := Lib.hid hRES
  have hle : (s.size : Int) ≤ 10000000 := by omega
  clear hRES hnl
  go_enter Tryd.func13, Tryd.ntmps13
  go_wp2
  go_loopw [3, 4] (fun o i wr => ∃ k : Nat, k ≤ s.size ∧ i = .int .i64 k ∧ o = .string (sB ((N.take k).map small)) ∧ Below w.heap.size w wr) (fun _ i _ => s.size - (intOf i).toNat)
  case atStart => exact ⟨0, Nat.zero_le _, rfl, rfl, br w⟩
  case round =>
    obtain ⟨k, hk, rfl, rfl, hbw⟩ := hrel
    have HBW := Lib.hid hbw
    clear hbw
    by_cases hks : k < s.size
    · have hkN : k < N.length := by rw [HNL.out]; exact hks
      have i1 : (k : Int) < (s.size : Int) := by omega
      have i0 : (0 : Int) ≤ (k : Int) := by omega
      have hx := HLT.out _ (List.getElem_mem hkN)
      have hixk := fun W => HIX.out k hks W
      rw [getD_lt hkN] at hixk
      have hts : (N.take (k + 1)).map small = (N.take k).map small ++ [small N[k]] := by rw [List.take_succ_eq_append_getElem hkN, List.map_append]; rfl
      have hone := fun w => oneR_any (small N[k]) (small_lt _ hx) w
      have hadd := fun w => add_sB ((N.take k).map small) [small N[k]] (by simp; omega) w
      rw [← hts] at hadd
      have hsm : small N[k] = if 65 ≤ N[k] ∧ N[k] ≤ 90 then N[k] + 32 else N[k] := rfl
      generalize small N[k] = y at *
      generalize N[k] = x at *
      generalize sB ((N.take k).map small) = T at *
      obtain ⟨T2, hT2⟩ : ∃ R, sB ((N.take (k + 1)).map small) = R := ⟨_, rfl⟩
      rw [hT2] at hadd
      have HT2 := Lib.hid hT2
      generalize sB [y] = C2 at *
      have HONE := Lib.hid hone
      clear hts hT2 hone
      by_cases c1 : 65 ≤ x
      · have c1i : (65 : Int) ≤ (x : Int) := by omega
        by_cases c2 : x ≤ 90
        · have c2i : (x : Int) ≤ 90 := by omega
          have hd : decide ((x : Int) ≤ 90) = true := decide_eq_true c2i
          rw [if_pos ⟨c1, c2⟩] at hsm
          have hy : (x : Int) + 32 = (y : Int) := by omega
          have hyw : IntKind.i64.wrap (y : Int) = (y : Int) := IntWalk.i64_in _ (by omega)
          clear hsm
          go_wp2_with fail
          refine (HONE.out _).mono ?_
          rintro en w3 ⟨rfl, b3⟩
          have HB3 := Lib.hid (bt HBW.out b3)
          clear b3
          go_wp2
          go_roundw
          case rel => exact ⟨k + 1, by omega, by go_num, by rw [HT2.out], HB3.out⟩
          case measure => simp [intOf]; omega
        · have c2i : ¬ (x : Int) ≤ 90 := by omega
          have hd : decide ((x : Int) ≤ 90) = false := decide_eq_false c2i
          rw [if_neg (by omega)] at hsm
          subst hsm
          go_wp2_with fail
          refine (HONE.out _).mono ?_
          rintro en w3 ⟨rfl, b3⟩
          have HB3 := Lib.hid (bt HBW.out b3)
          clear b3
          go_wp2
          go_roundw
          case rel => exact ⟨k + 1, by omega, by go_num, by rw [HT2.out], HB3.out⟩
          case measure => simp [intOf]; omega
      · have c1i : ¬ (65 : Int) ≤ (x : Int) := by omega
        rw [if_neg (by omega)] at hsm
        subst hsm
        go_wp2_with fail
        refine (HONE.out _).mono ?_
        rintro en w3 ⟨rfl, b3⟩
        have HB3 := Lib.hid (bt HBW.out b3)
        clear b3
        go_wp2
        go_roundw
        case rel => exact ⟨k + 1, by omega, by go_num, by rw [HT2.out], HB3.out⟩
        case measure => simp [intOf]; omega
    · have e : k = s.size := by omega
      subst e
      have hall : N.take s.size = N := by rw [← HNL.out]; exact List.take_length
      rw [hall, HRES.out]
      clear hall
      go_wp2
      go_ret
      exact ⟨rfl, HBW.out⟩
end Sl
end Go.Proofs.YtkanlfgomfibdaaDoor
