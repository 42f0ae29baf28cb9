/- Persons: the percents that are off. -/
import Derived.Test.YtalmjeigfhjhfaaPersonWin
import Derived.Test.YtalmjeigfhjhfaaRd
import Derived.Deep.LoopGhost
set_option linter.unusedVariables false
namespace Go.Proofs.Ytalmjeigfhjhfaa
open Go.RowKit
namespace Dt
def eC (c : Cl) : List Value := [.int .i64 c.1, .int .i64 c.2.1, .int .i64 c.2.2]
theorem eC_at {w : World} {b off : Nat} {xs : List Cl} (h : ∀ (i : Nat) (h : i < xs.length) (j : Nat) (u : Value), (eC xs[i])[j]? = some u → w.cell? ⟨b, off + (i * 3 + j), none⟩ = some u)
    (i : Nat) (hi : i < xs.length) : w.cell? ⟨b, off + i * 3, none⟩ = some (.int .i64 xs[i].1) ∧ w.cell? ⟨b, off + i * 3 + 1, none⟩ = some (.int .i64 xs[i].2.1) ∧ w.cell? ⟨b, off + i * 3 + 2, none⟩ = some (.int .i64 xs[i].2.2) := ⟨h i hi 0 _ rfl, h i hi 1 _ rfl, h i hi 2 _ rfl⟩
theorem window_x (b : Int) (c : Cl) (w : World) : Calls Try.prog 14 #[.int .i64 b, .agg #[.int .i64 c.1, .int .i64 c.2.1, .int .i64 c.2.2]] w fun e w' => e = .returned (.tuple #[.agg #[.int .i64 (winF b c).1.1, .int .i64 (winF b c).1.2], .int .i64 (winF b c).2]) ∧ Below w.heap.size w w' := window_any b c w
set_option maxHeartbeats 2000000 in
theorem percent_any (b : Int) (v : Value) (xs : List Cl) (n : Int) (w : World) (h : Rd 3 eC w v xs) : Calls Try.prog 15 #[.int .i64 b, v, .int .i64 n] w (PairQ (percF b xs n) w) := by
  obtain ⟨a, cap, rfl, h1, h2, h3⟩ := h
  have hF : percF b xs n = if 8 < xs.length then (0, 2) else if errP b xs ≠ 0 then (0, errP b xs) else if n < 1 ∨ 3652059 < n then (0, 3) else (bestP b n xs, 0) := rfl
  by_cases hl : 8 < xs.length
  · rw [if_pos hl] at hF
    have HF := Lib.hid hF; clear hF h3
    have hl' : (8 : Int) < (xs.length : Int) := by omega
    go_enter Try.func15, Try.ntmps15
    go_wp2
    go_ret2
    exact ⟨by rw [HF.out]; rfl, br _⟩
  · rw [if_neg hl] at hF
    have HF := Lib.hid hF; clear hF
    have H3 := Lib.hid h3; clear h3
    go_enter Try.func15, Try.ntmps15
    go_wp2
    go_loopw [8, 18] (fun m i wr => ∃ k : Nat, k ≤ xs.length ∧ i = .int .i64 k ∧ m = .int .i64 (bestP b n (xs.take k)) ∧ (∀ j (hj : j < xs.length), j < k → (winF b xs[j]).2 = 0) ∧ Below w.heap.size w wr) (fun _ i _ => xs.length - (intOf i).toNat)
    case atStart => exact ⟨0, Nat.zero_le _, rfl, rfl, fun j hj hk => by omega, br _⟩
    case round =>
      obtain ⟨k, hk, rfl, rfl, hall, hbw⟩ := hrel
      by_cases hlt : k < xs.length
      · obtain ⟨g, off, rfl, hbl, hc⟩ := H3.out (by omega)
        obtain ⟨q0, q1, q2⟩ := eC_at hc k hlt
        have c0 := (hbw.cell (p := ⟨g, off + k * 3, none⟩) hbl).trans q0
        have c1 := (hbw.cell (p := ⟨g, off + k * 3 + 1, none⟩) hbl).trans q1
        have c2 := (hbw.cell (p := ⟨g, off + k * 3 + 2, none⟩) hbl).trans q2
        have i1 : (k : Int) < (xs.length : Int) := by omega
        have i0 : (0 : Int) ≤ (k : Int) := by omega
        have hsn := bestP_succ b n xs k hlt
        have herr := errP_at b xs k hlt hall
        have hW := window_x b xs[k]
        have hst : stepP b n (bestP b n (xs.take k)) xs[k] = if (winF b xs[k]).1.1 ≤ n ∧ n < (winF b xs[k]).1.2 then (if bestP b n (xs.take k) < xs[k].2.2 then xs[k].2.2 else bestP b n (xs.take k)) else bestP b n (xs.take k) := rfl
        have hall2 : (winF b xs[k]).2 = 0 → ∀ j (hj : j < xs.length), j < k + 1 → (winF b xs[j]).2 = 0 := fun he j hj hjk => by
          by_cases e : j = k
          · subst e; exact he
          · exact hall j hj (by omega)
        rw [hst] at hsn
        generalize xs[k].1 = cf at *
        generalize xs[k].2.1 = ct at *
        generalize xs[k].2.2 = cp at *
        generalize (winF b xs[k]).1.1 = X at *
        generalize (winF b xs[k]).1.2 = Y at *
        generalize (winF b xs[k]).2 = e at *
        generalize bestP b n (xs.take k) = M at *
        have HW := Lib.hid hW; have HA2 := Lib.hid hall2; have HSN := Lib.hid hsn; have HERR := Lib.hid herr; have HBW := Lib.hid hbw
        clear hc q0 q1 q2 hW hall2 hsn herr hst hall hbw
        by_cases he : e = 0
        · subst he
          have HA3 := Lib.hid (HA2.out rfl)
          rcases (show ¬ X ≤ n ∨ (X ≤ n ∧ ¬ n < Y) ∨ (X ≤ n ∧ n < Y ∧ M < cp) ∨ (X ≤ n ∧ n < Y ∧ ¬ M < cp) by omega) with g1 | ⟨g1, g2⟩ | ⟨g1, g2, g3⟩ | ⟨g1, g2, g3⟩
          case' inl => have hst : bestP b n (xs.take (k + 1)) = M := by rw [HSN.out, if_neg (fun h => g1 h.1)]
          case' inr.inl => have hst : bestP b n (xs.take (k + 1)) = M := by rw [HSN.out, if_neg (fun h => g2 h.2)]
          case' inr.inr.inl => have hst : bestP b n (xs.take (k + 1)) = cp := by rw [HSN.out, if_pos ⟨g1, g2⟩, if_pos g3]
          case' inr.inr.inr => have hst : bestP b n (xs.take (k + 1)) = M := by rw [HSN.out, if_pos ⟨g1, g2⟩, if_neg g3]
          all_goals
            have HST := Lib.hid hst
            clear hst
            go_wp2_with fail
            refine (HW.out _).mono ?_
            rintro en w3 ⟨rfl, hb3⟩
            have d2 : w3.cell? ⟨wr.heap.size, 2, none⟩ = some (.int .i64 cp) := boxc (bx hb3) 2
            have d3 : (w3.alloc (.cells #[.int .i64 X, .int .i64 Y] 29)).cell? ⟨wr.heap.size, 2, none⟩ = some (.int .i64 cp) := kp ((br w3).alloc (Nat.le_refl _) _) d2
            have HB3 := Lib.hid (HBW.out.trans ((bt ((br wr).alloc (Nat.le_refl _) _) hb3).mono HBW.out.size))
            clear hb3 c0 c1 c2
            go_wp2
            go_roundw
            case rel => exact ⟨k + 1, by omega, by go_num, by first | (rw [HST.out]; done) | (rw [HST.out]; congr 1; omega), HA3.out, by first | exact HB3.out | exact HB3.out.alloc HB3.out.size _ | exact bn HB3.out _⟩
            case measure => simp [intOf]; omega
        · have hF := HF.out
          have he2 := HERR.out he
          rw [if_pos (by rw [he2]; exact he), he2] at hF
          have HF2 := Lib.hid hF
          have hne : (e != 0) = true := by simp [he]
          clear hF he2
          go_wp2_with fail
          refine (HW.out _).mono ?_
          rintro en w3 ⟨rfl, hb3⟩
          have d2 : w3.cell? ⟨wr.heap.size, 2, none⟩ = some (.int .i64 cp) := boxc (bx hb3) 2
          have HB3 := Lib.hid (HBW.out.trans ((bt ((br wr).alloc (Nat.le_refl _) _) hb3).mono HBW.out.size))
          clear hb3 c0 c1 c2
          go_wp2
          go_ret2
          exact ⟨by rw [HF2.out]; rfl, by first | exact HB3.out | exact HB3.out.alloc HB3.out.size _ | exact bn HB3.out _⟩
      · obtain rfl : k = xs.length := by omega
        have hno : errP b xs = 0 := errP_none b xs (fun j hj => hall j hj hj)
        have hF := HF.out
        rw [if_neg (fun h => h hno)] at hF
        have htk : bestP b n (xs.take xs.length) = bestP b n xs := by rw [List.take_length]
        rw [htk]
        generalize bestP b n xs = M at *
        have HBW := Lib.hid hbw
        clear hall hno htk H3
        by_cases hn : n < 1 ∨ 3652059 < n
        · rw [if_pos hn] at hF
          have HF2 := Lib.hid hF
          have HN := Lib.hid (isD_no hn)
          clear hF hn
          go_wp2_with fail
          refine (is_any n _).mono ?_
          rintro en w3 ⟨rfl, rfl⟩
          rw [HN.out]
          go_wp2
          go_ret2
          exact ⟨by rw [HF2.out]; rfl, HBW.out⟩
        · rw [if_neg hn] at hF
          have HF2 := Lib.hid hF
          have HN := Lib.hid (isD_yes (show 1 ≤ n by omega) (by omega))
          clear hF hn
          go_wp2_with fail
          refine (is_any n _).mono ?_
          rintro en w3 ⟨rfl, rfl⟩
          rw [HN.out]
          go_wp2
          go_ret2
          exact ⟨by rw [HF2.out]; rfl, HBW.out⟩
end Dt
end Go.Proofs.Ytalmjeigfhjhfaa
