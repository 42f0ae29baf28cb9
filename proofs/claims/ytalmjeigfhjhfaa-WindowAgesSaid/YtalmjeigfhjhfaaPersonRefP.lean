/- The document's percents that are off. -/
import Derived.Test.YtalmjeigfhjhfaaPersonRefW
import Derived.Test.YtalmjeigfhjhfaaPersonPct
import Derived.Deep.LoopGhost
import Derived.Deep.RegionWith
set_option linter.unusedVariables false
namespace Go.Proofs.Ytalmjeigfhjhfaa
open Go.RowKit
namespace Dt
theorem windowR_x (b : Int) (c : Cl) (w : World) : Calls Try.prog 18 #[.int .i64 b, .agg #[.int .i64 c.1, .int .i64 c.2.1, .int .i64 c.2.2]] w fun e w' => e = .returned (.tuple #[.agg #[.int .i64 (winF b c).1.1, .int .i64 (winF b c).1.2], .int .i64 (winF b c).2]) ∧ Below w.heap.size w w' := windowR_any b c w
set_option maxHeartbeats 2000000 in
theorem percentR_any (b : Int) (v : Value) (xs : List Cl) (n : Int) (w : World) (h : Rd 3 eC w v xs) : Calls Try.prog 19 #[.int .i64 b, v, .int .i64 n] w (PairQ (percF b xs n) w) := by
  obtain ⟨a, cap, rfl, h1, h2, h3⟩ := h
  have hF : percF b xs n = if 8 < xs.length then (0, 2) else if errP b xs ≠ 0 then (0, errP b xs) else if n < 1 ∨ 3652059 < n then (0, 3) else (bestP b n xs, 0) := rfl
  by_cases hl : 8 < xs.length
  · rw [if_pos hl] at hF
    have HF := Lib.hid hF; clear hF h3
    have hl' : (8 : Int) < (xs.length : Int) := by omega
    go_enter Try.func19, Try.ntmps19
    go_wp2
    go_ret2
    exact ⟨by rw [HF.out]; rfl, br _⟩
  · rw [if_neg hl] at hF
    have HF := Lib.hid hF; clear hF
    have H3 := Lib.hid h3; clear h3
    go_enter Try.func19, Try.ntmps19
    go_wp2
    go_loopw [8] (fun i wr => ∃ k : Nat, k ≤ xs.length ∧ i = .int .i64 k ∧ (∀ j (hj : j < xs.length), j < k → (winF b xs[j]).2 = 0) ∧ Below w.heap.size w wr) (fun i _ => xs.length - (intOf i).toNat)
    case atStart => exact ⟨0, Nat.zero_le _, rfl, fun j hj hk => by omega, br _⟩
    case round =>
      obtain ⟨k, hk, rfl, hall, hbw⟩ := hrel
      by_cases hlt : k < xs.length
      · obtain ⟨g, off, rfl, hbl, hc⟩ := H3.out (by omega)
        obtain ⟨q0, q1, q2⟩ := eC_at hc k hlt
        have c0 := (hbw.cell (p := ⟨g, off + k * 3, none⟩) hbl).trans q0
        have c1 := (hbw.cell (p := ⟨g, off + k * 3 + 1, none⟩) hbl).trans q1
        have c2 := (hbw.cell (p := ⟨g, off + k * 3 + 2, none⟩) hbl).trans q2
        have i1 : (k : Int) < (xs.length : Int) := by omega
        have i0 : (0 : Int) ≤ (k : Int) := by omega
        have herr := errP_at b xs k hlt hall
        have hW := windowR_x b xs[k]
        have hall2 : (winF b xs[k]).2 = 0 → ∀ j (hj : j < xs.length), j < k + 1 → (winF b xs[j]).2 = 0 := fun he j hj hjk => by
          by_cases e : j = k
          · subst e; exact he
          · exact hall j hj (by omega)
        generalize xs[k].1 = cf at *
        generalize xs[k].2.1 = ct at *
        generalize xs[k].2.2 = cp at *
        generalize (winF b xs[k]).1.1 = X at *
        generalize (winF b xs[k]).1.2 = Y at *
        generalize (winF b xs[k]).2 = e at *
        have HW := Lib.hid hW; have HA2 := Lib.hid hall2; have HERR := Lib.hid herr; have HBW := Lib.hid hbw
        clear hc q0 q1 q2 hW hall2 herr hall hbw
        by_cases he : e = 0
        · subst he
          have HA3 := Lib.hid (HA2.out rfl)
          go_wp2_with fail
          refine (HW.out _).mono ?_
          rintro en w3 ⟨rfl, hb3⟩
          have HB3 := Lib.hid (HBW.out.trans (hb3.mono HBW.out.size))
          clear hb3 c0 c1 c2
          go_wp2
          go_roundw
          case rel => exact ⟨k + 1, by omega, by go_num, HA3.out, by first | exact HB3.out | exact HB3.out.alloc HB3.out.size _ | exact bn HB3.out _⟩
          case measure => simp [intOf]; omega
        · have hF := HF.out
          have he2 := HERR.out he
          rw [if_pos (by rw [he2]; exact he), he2] at hF
          have HF2 := Lib.hid hF
          have hne : (e != 0) = true := by simp [he]
          clear hF he2
          go_wp2_with fail
          refine (HW.out _).mono ?_
          rintro en w3 ⟨rfl, hb3⟩
          have HB3 := Lib.hid (HBW.out.trans (hb3.mono HBW.out.size))
          clear hb3 c0 c1 c2
          go_wp2
          go_ret2
          exact ⟨by rw [HF2.out]; rfl, by first | exact HB3.out | exact HB3.out.alloc HB3.out.size _ | exact bn HB3.out _⟩
      · obtain rfl : k = xs.length := by omega
        have hno : errP b xs = 0 := errP_none b xs (fun j hj => hall j hj hj)
        have hF := HF.out
        rw [if_neg (fun h => h hno)] at hF
        have HBW := Lib.hid hbw
        clear hall
        by_cases hn : n < 1 ∨ 3652059 < n
        · rw [if_pos hn] at hF
          have HF2 := Lib.hid hF
          have HN := Lib.hid (isD_no hn)
          clear hF hn
          go_wp2_with fail
          refine (noDay_any n _).mono ?_
          rintro en w3 ⟨rfl, rfl⟩
          rw [HN.out]
          go_wp2
          go_ret2
          exact ⟨by rw [HF2.out]; rfl, HBW.out⟩
        · rw [if_neg hn] at hF
          have hba := best_age (show 1 ≤ n by omega) (by omega) hno
          rw [hba] at hF
          have HF2 := Lib.hid hF
          have HN := Lib.hid (isD_yes (show 1 ≤ n by omega) (by omega))
          have hA := ageR_any b n
          unfold PairQ at hA
          have HA := Lib.hid hA
          clear hF hn hba hA
          generalize (ageF b n).1 = ag at *
          generalize (ageF b n).2 = ae at *
          go_wp2_with fail
          refine (noDay_any n _).mono ?_
          rintro en w3 ⟨rfl, rfl⟩
          rw [HN.out]
          go_wp2_with fail
          refine (HA.out _).mono ?_
          rintro en w4 ⟨rfl, hb4⟩
          have HB4 := Lib.hid (HBW.out.trans (hb4.mono HBW.out.size))
          clear hb4 HBW HF
          by_cases h0 : ae = 0
          · subst h0
            rw [if_pos rfl] at HF2
            go_wp2
            go_loopw [11, 14] (fun m i wr => ∃ k : Nat, k ≤ xs.length ∧ i = .int .i64 k ∧ m = .int .i64 (bestA ag (xs.take k)) ∧ Below w.heap.size w wr) (fun _ i _ => xs.length - (intOf i).toNat)
            case atStart => exact ⟨0, Nat.zero_le _, rfl, rfl, HB4.out⟩
            case round =>
              obtain ⟨k, hk, rfl, rfl, hbw⟩ := hrel
              have HBW := Lib.hid hbw
              by_cases hlt : k < xs.length
              · obtain ⟨g, off, rfl, hbl, hc⟩ := H3.out (by omega)
                obtain ⟨q0, q1, q2⟩ := eC_at hc k hlt
                have c0 := (hbw.cell (p := ⟨g, off + k * 3, none⟩) hbl).trans q0
                have c1 := (hbw.cell (p := ⟨g, off + k * 3 + 1, none⟩) hbl).trans q1
                have c2 := (hbw.cell (p := ⟨g, off + k * 3 + 2, none⟩) hbl).trans q2
                have i1 : (k : Int) < (xs.length : Int) := by omega
                have i0 : (0 : Int) ≤ (k : Int) := by omega
                have hsn := bestA_succ ag xs k hlt
                have hst : stepA ag (bestA ag (xs.take k)) xs[k] = if xs[k].1 ≤ ag ∧ ag ≤ xs[k].2.1 ∧ bestA ag (xs.take k) < xs[k].2.2 then xs[k].2.2 else bestA ag (xs.take k) := rfl
                rw [hst] at hsn
                generalize xs[k].1 = cf at *
                generalize xs[k].2.1 = ct at *
                generalize xs[k].2.2 = cp at *
                generalize bestA ag (xs.take k) = M at *
                have HSN := Lib.hid hsn
                clear hc q0 q1 q2 hsn hst hbw
                rcases (show ¬ cf ≤ ag ∨ (cf ≤ ag ∧ ¬ ag ≤ ct) ∨ (cf ≤ ag ∧ ag ≤ ct ∧ ¬ M < cp) ∨ (cf ≤ ag ∧ ag ≤ ct ∧ M < cp) by omega) with g1 | ⟨g1, g2⟩ | ⟨g1, g2, g3⟩ | ⟨g1, g2, g3⟩
                · have HST := Lib.hid (show bestA ag (xs.take (k + 1)) = M by rw [HSN.out, if_neg (fun h => g1 h.1)])
                  go_wp2
                  go_roundw
                  case rel => exact ⟨k + 1, by omega, by go_num, by rw [HST.out], by first | exact HBW.out | exact bn HBW.out _⟩
                  case measure => simp [intOf]; omega
                · have HST := Lib.hid (show bestA ag (xs.take (k + 1)) = M by rw [HSN.out, if_neg (fun h => g2 h.2.1)])
                  go_wp2
                  go_roundw
                  case rel => exact ⟨k + 1, by omega, by go_num, by rw [HST.out], by first | exact HBW.out | exact bn HBW.out _⟩
                  case measure => simp [intOf]; omega
                · have HST := Lib.hid (show bestA ag (xs.take (k + 1)) = M by rw [HSN.out, if_neg (fun h => g3 h.2.2)])
                  go_wp2
                  go_roundw
                  case rel => exact ⟨k + 1, by omega, by go_num, by rw [HST.out], by first | exact HBW.out | exact bn HBW.out _⟩
                  case measure => simp [intOf]; omega
                · have HST := Lib.hid (show bestA ag (xs.take (k + 1)) = cp by rw [HSN.out, if_pos ⟨g1, g2, g3⟩])
                  go_wp2
                  go_roundw
                  case rel => exact ⟨k + 1, by omega, by go_num, by rw [HST.out], by first | exact HBW.out | exact bn HBW.out _⟩
                  case measure => simp [intOf]; omega
              · obtain rfl : k = xs.length := by omega
                rw [List.take_length]
                generalize bestA ag xs = M at *
                clear hbw
                go_wp2
                go_ret2
                exact ⟨by rw [HF2.out]; rfl, by first | exact HBW.out | exact bn HBW.out _⟩
          · rw [if_neg h0] at HF2
            have hne : (ae == 0) = false := by simp [h0]
            go_wp2
            go_loopw [11, 14] (fun m i wr => i = .int .i64 0 ∧ m = .int .i64 0 ∧ Below w.heap.size w wr) (fun _ _ _ => 0)
            case atStart => exact ⟨rfl, rfl, HB4.out⟩
            case round =>
              obtain ⟨rfl, rfl, hbw⟩ := hrel
              have HBW := Lib.hid hbw
              clear hbw
              by_cases hx : (0 : Int) < (xs.length : Int)
              · go_wp2
                go_ret2
                exact ⟨by rw [HF2.out]; rfl, by first | exact HBW.out | exact bn HBW.out _⟩
              · go_wp2
                go_ret2
                exact ⟨by rw [HF2.out]; rfl, by first | exact HBW.out | exact bn HBW.out _⟩
end Dt
end Go.Proofs.Ytalmjeigfhjhfaa
