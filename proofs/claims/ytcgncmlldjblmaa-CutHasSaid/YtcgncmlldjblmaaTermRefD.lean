/- The document's day of a term. -/
import Derived.Test.YtcgncmlldjblmaaTermRef
import Derived.Deep.LoopGhost
import Derived.Deep.RegionWith
set_option linter.unusedSimpArgs false
set_option linter.unusedVariables false
namespace Go.Proofs.Ytcgncmlldjblmaa
open Go.RowKit
namespace Dt
/-- the day of the document's box, as it goes down to the month's length -/
structure Bx (W w : World) (g : Nat) (D : Int) : Prop where
  below : Below W.heap.size W w
  ge : W.heap.size ≤ g
  lt : g < w.heap.size
  cell : w.cell? ⟨g, 2, none⟩ = some (.int .i64 D)
  froz : w.frozen? ⟨g, 2, none⟩ = false
theorem Bx.next {W w w' : World} {g : Nat} {D : Int} (h : Bx W w g D) (hb : Below w.heap.size w w') : Bx W w' g D :=
  ⟨h.below.trans (hb.mono h.below.size), h.ge, kl hb h.lt, kp hb h.cell, (hb.frozen (p := ⟨g, 2, none⟩) h.lt).trans h.froz⟩
theorem Bx.set {W w : World} {g : Nat} {D : Int} (h : Bx W w g D) (E : Int) : Bx W (w.setCell ⟨g, 2, none⟩ (.int .i64 E)) g E := by
  refine ⟨h.below.setCell h.ge _, h.ge, by have := h.lt; simpa using this, ?_, ?_⟩
  · exact World.cell?_setCell_same w _ _ h.cell
  · rw [World.frozen?_setCell]; exact h.froz
theorem Bx.dr {W w : World} {g : Nat} {D : Int} (h : Bx W w g D) (n : Nat) : Bx W (w.drewN n) g D := ⟨⟨h.below.os, h.below.tape, h.below.output, h.below.size, h.below.block⟩, h.ge, h.lt, h.cell, h.froz⟩
theorem bx0 (W w1 : World) (hb : Below W.heap.size W w1) (y m d : Int) (t : TypeId) : Bx W (w1.alloc (.cells #[.int .i64 y, .int .i64 m, .int .i64 d] t)) w1.heap.size d := by
  refine ⟨hb.alloc hb.size _, hb.size, by simp, ?_, ?_⟩
  · rw [World.cell?_alloc_mark]; rfl
  · rw [World.frozen?_alloc_mark]; simp
set_option maxHeartbeats 2000000 in
theorem mon3_any (s N k X q r y0 m0 d0 : Int) (w : World) (hX : N * k = X) (hx0 : 0 ≤ X) (hx1 : X ≤ 120120) (hq : X.tdiv 12 = q) (hr : X.tmod 12 = r) (O : RowKit.Hid (ofF s = ((y0, m0, d0), 0))) (hq0 : 0 ≤ q) (hq1 : q ≤ 120120) (hr0 : 0 ≤ r) (hr1 : r ≤ 11) (hy : 1 ≤ y0) (hy1 : y0 ≤ 9999) (hm : 1 ≤ m0) (hm1 : m0 ≤ 12) (hd : 1 ≤ d0) (hd1 : d0 ≤ 31)
    (F : Int) (HF : RowKit.Hid (∀ y m, 1 ≤ m → m ≤ 12 → 12 * y + (m - 1) = 12 * y0 + (m0 - 1) + (12 * q + r) → (9999 < y ∧ F = 0) ∨ (y ≤ 9999 ∧ F = raw y m (min d0 (len y m))))) : Calls Try.prog 51 #[.int .i64 s, aT 3 N, .int .i64 k] w (IntQ F w) := by
  unfold aT
  go_enter Try.func51, Try.ntmps51
  go_wp2_with fail
  refine (dateOfR_any s _).mono ?_
  rintro en w1 ⟨rfl, hb1⟩
  rw [O.out]; simp only [aD]
  have H1 := bt ((br w).alloc (Nat.le_refl _) (.cells #[.int .i64 3, .int .i64 N] 26)) hb1
  have BX := Lib.hid (bx0 w w1 H1 y0 m0 d0 78)
  clear hb1 H1 O
  go_wp2_with fail
  go_quiet (fail)
  have BX := Lib.hid (BX.out.dr nq)
  obtain ⟨rn, hrn⟩ : ∃ rn : Nat, r = rn := ⟨r.toNat, by omega⟩
  subst hrn
  generalize (w1.alloc (.cells #[.int .i64 y0, .int .i64 m0, .int .i64 d0] 78)).drewN nq = w2 at *
  generalize w1.heap.size = B at *
  go_wp2_with fail
  go_loopw [11, 12, 13] (fun y m i wr => ∃ (j : Nat) (y' m' : Int), j ≤ rn ∧ y0 ≤ y' ∧ i = .int .i64 j ∧ y = .int .i64 y' ∧ m = .int .i64 m' ∧ 1 ≤ m' ∧ m' ≤ 12 ∧ 12 * y' + (m' - 1) = 12 * y0 + (m0 - 1) + (12 * q + j) ∧ Bx w wr B d0) (fun _ _ i _ => rn - (intOf i).toNat)
  case atStart => exact ⟨0, y0 + q, m0, Nat.zero_le _, by omega, rfl, rfl, rfl, hm, hm1, by omega, BX.out⟩
  case round =>
    obtain ⟨j, y', m', hj, hyy, rfl, rfl, rfl, m1, m2, heq, hbx⟩ := hrel
    have HB := Lib.hid hbx
    have HE := Lib.hid heq
    have yb0 : 0 ≤ y' := by omega
    have yb1 : y' ≤ 200000 := by omega
    clear BX hbx heq
    by_cases hlt : j < rn
    · by_cases h12 : m' = 12
      · subst h12
        go_wp2
        go_roundw
        case rel => exact ⟨j + 1, y' + 1, 1, by omega, by omega, by go_num, rfl, rfl, by omega, by omega, by have := HE.out; omega, by first | exact HB.out | exact HB.out.dr _⟩
        case measure => first | (simp [intOf]; done) | (simp [intOf]; omega)
      · have hne : (m' + 1 == 13) = false := by simp; omega
        go_wp2
        go_roundw
        case rel => exact ⟨j + 1, y', m' + 1, by omega, hyy, by go_num, rfl, rfl, by omega, by omega, by have := HE.out; omega, by first | exact HB.out | exact HB.out.dr _⟩
        case measure => first | (simp [intOf]; done) | (simp [intOf]; omega)
    · obtain rfl : j = rn := by omega
      have hF := HF.out y' m' m1 m2 HE.out
      clear HF HE
      rcases hF with ⟨hy9, rfl⟩ | ⟨hy9, hF⟩
      · go_wp2
        go_ret
        exact ⟨rfl, HB.out.below⟩
      · have hl := len_bd y' m' m1 m2
        have hl0 : len0 y' m' = len y' m' := by unfold len0; rw [if_pos ⟨by omega, hy9, m1, m2⟩]
        generalize len y' m' = L at *
        have HF := Lib.hid hF
        have hy0 : 1 ≤ y' := by omega
        clear hF
        go_wp2_with fail
        go_loopw [] (fun wr => ∃ D : Int, min d0 L ≤ D ∧ D ≤ d0 ∧ Bx w wr B D) (fun wr => (match wr.cell? ⟨B, 2, none⟩ with | some v => intOf v | none => 0).toNat)
        case atStart => exact ⟨d0, by omega, by omega, HB.out⟩
        case round =>
          obtain ⟨D, hD0, hD1, hbx⟩ := hrel
          have c2 := hbx.cell
          have f2 := hbx.froz
          have HB := Lib.hid hbx
          clear hbx
          by_cases hgt : L < D
          · go_wp2_with fail
            go_quiet ((go_at_call 63; exact qz (monthDays_any _ _ _)))
            have HB2 := Lib.hid ((HB.out.dr nq).set (D - 1))
            go_wp2
            go_roundw
            case rel => exact ⟨D - 1, by omega, by omega, HB2.out⟩
            case measure =>
              rw [HB2.out.cell, c2]
              show (D - 1).toNat < D.toNat
              omega
          · go_wp2_with fail
            go_quiet ((go_at_call 63; exact qz (monthDays_any _ _ _)))
            have hDm : D = min d0 L := by omega
            subst hDm
            go_wp2_with fail
            refine (dayOfR_any y' m' _ _ hy0 (by omega) m1 m2 (by omega) (by omega)).mono ?_
            rintro en w4 ⟨rfl, hb4⟩
            go_wp2
            go_ret
            exact ⟨by rw [HF.out]; rfl, (HB.out.dr nq).below.trans (hb4.mono (HB.out.dr nq).below.size)⟩
set_option maxHeartbeats 2000000 in
theorem mon4_any (s N k X Z q r y0 m0 d0 : Int) (w : World) (hX : N * k = X) (hx0 : 0 ≤ X) (hx1 : X ≤ 120120) (hZ : X * 12 = Z) (hq : Z.tdiv 12 = q) (hr : Z.tmod 12 = r) (O : RowKit.Hid (ofF s = ((y0, m0, d0), 0))) (hq0 : 0 ≤ q) (hq1 : q ≤ 120120) (hr0 : 0 ≤ r) (hr1 : r ≤ 11) (hy : 1 ≤ y0) (hy1 : y0 ≤ 9999) (hm : 1 ≤ m0) (hm1 : m0 ≤ 12) (hd : 1 ≤ d0) (hd1 : d0 ≤ 31)
    (F : Int) (HF : RowKit.Hid (∀ y m, 1 ≤ m → m ≤ 12 → 12 * y + (m - 1) = 12 * y0 + (m0 - 1) + (12 * q + r) → (9999 < y ∧ F = 0) ∨ (y ≤ 9999 ∧ F = raw y m (min d0 (len y m))))) : Calls Try.prog 51 #[.int .i64 s, aT 4 N, .int .i64 k] w (IntQ F w) := by
  unfold aT
  go_enter Try.func51, Try.ntmps51
  go_wp2_with fail
  refine (dateOfR_any s _).mono ?_
  rintro en w1 ⟨rfl, hb1⟩
  rw [O.out]; simp only [aD]
  have H1 := bt ((br w).alloc (Nat.le_refl _) (.cells #[.int .i64 4, .int .i64 N] 26)) hb1
  have BX := Lib.hid (bx0 w w1 H1 y0 m0 d0 78)
  clear hb1 H1 O
  go_wp2_with fail
  go_quiet (fail)
  have BX := Lib.hid (BX.out.dr nq)
  obtain ⟨rn, hrn⟩ : ∃ rn : Nat, r = rn := ⟨r.toNat, by omega⟩
  subst hrn
  generalize (w1.alloc (.cells #[.int .i64 y0, .int .i64 m0, .int .i64 d0] 78)).drewN nq = w2 at *
  generalize w1.heap.size = B at *
  go_wp2_with fail
  go_loopw [11, 12, 13] (fun y m i wr => ∃ (j : Nat) (y' m' : Int), j ≤ rn ∧ y0 ≤ y' ∧ i = .int .i64 j ∧ y = .int .i64 y' ∧ m = .int .i64 m' ∧ 1 ≤ m' ∧ m' ≤ 12 ∧ 12 * y' + (m' - 1) = 12 * y0 + (m0 - 1) + (12 * q + j) ∧ Bx w wr B d0) (fun _ _ i _ => rn - (intOf i).toNat)
  case atStart => exact ⟨0, y0 + q, m0, Nat.zero_le _, by omega, rfl, rfl, rfl, hm, hm1, by omega, BX.out⟩
  case round =>
    obtain ⟨j, y', m', hj, hyy, rfl, rfl, rfl, m1, m2, heq, hbx⟩ := hrel
    have HB := Lib.hid hbx
    have HE := Lib.hid heq
    have yb0 : 0 ≤ y' := by omega
    have yb1 : y' ≤ 200000 := by omega
    clear BX hbx heq
    by_cases hlt : j < rn
    · by_cases h12 : m' = 12
      · subst h12
        go_wp2
        go_roundw
        case rel => exact ⟨j + 1, y' + 1, 1, by omega, by omega, by go_num, rfl, rfl, by omega, by omega, by have := HE.out; omega, by first | exact HB.out | exact HB.out.dr _⟩
        case measure => first | (simp [intOf]; done) | (simp [intOf]; omega)
      · have hne : (m' + 1 == 13) = false := by simp; omega
        go_wp2
        go_roundw
        case rel => exact ⟨j + 1, y', m' + 1, by omega, hyy, by go_num, rfl, rfl, by omega, by omega, by have := HE.out; omega, by first | exact HB.out | exact HB.out.dr _⟩
        case measure => first | (simp [intOf]; done) | (simp [intOf]; omega)
    · obtain rfl : j = rn := by omega
      have hF := HF.out y' m' m1 m2 HE.out
      clear HF HE
      rcases hF with ⟨hy9, rfl⟩ | ⟨hy9, hF⟩
      · go_wp2
        go_ret
        exact ⟨rfl, HB.out.below⟩
      · have hl := len_bd y' m' m1 m2
        have hl0 : len0 y' m' = len y' m' := by unfold len0; rw [if_pos ⟨by omega, hy9, m1, m2⟩]
        generalize len y' m' = L at *
        have HF := Lib.hid hF
        have hy0 : 1 ≤ y' := by omega
        clear hF
        go_wp2_with fail
        go_loopw [] (fun wr => ∃ D : Int, min d0 L ≤ D ∧ D ≤ d0 ∧ Bx w wr B D) (fun wr => (match wr.cell? ⟨B, 2, none⟩ with | some v => intOf v | none => 0).toNat)
        case atStart => exact ⟨d0, by omega, by omega, HB.out⟩
        case round =>
          obtain ⟨D, hD0, hD1, hbx⟩ := hrel
          have c2 := hbx.cell
          have f2 := hbx.froz
          have HB := Lib.hid hbx
          clear hbx
          by_cases hgt : L < D
          · go_wp2_with fail
            go_quiet ((go_at_call 63; exact qz (monthDays_any _ _ _)))
            have HB2 := Lib.hid ((HB.out.dr nq).set (D - 1))
            go_wp2
            go_roundw
            case rel => exact ⟨D - 1, by omega, by omega, HB2.out⟩
            case measure =>
              rw [HB2.out.cell, c2]
              show (D - 1).toNat < D.toNat
              omega
          · go_wp2_with fail
            go_quiet ((go_at_call 63; exact qz (monthDays_any _ _ _)))
            have hDm : D = min d0 L := by omega
            subst hDm
            go_wp2_with fail
            refine (dayOfR_any y' m' _ _ hy0 (by omega) m1 m2 (by omega) (by omega)).mono ?_
            rintro en w4 ⟨rfl, hb4⟩
            go_wp2
            go_ret
            exact ⟨by rw [HF.out]; rfl, (HB.out.dr nq).below.trans (hb4.mono (HB.out.dr nq).below.size)⟩
theorem termDay_any (s u N k : Int) (w : World) (u1 : 1 ≤ u) (u2 : u ≤ 4) (n1 : 1 ≤ N) (n2 : N ≤ 120) (s1 : 1 ≤ s) (s2 : s ≤ 3652059) (k1 : 0 ≤ k) (k2 : k ≤ 1001) : Calls Try.prog 51 #[.int .i64 s, aT u N, .int .i64 k] w (IntQ (dayR u N s k) w) := by
  obtain ⟨X, hX⟩ : ∃ X, N * k = X := ⟨_, rfl⟩
  have hb := mul_bd n1 n2 k1 k2
  rw [hX] at hb
  obtain ⟨x0, x1, _⟩ := hb
  obtain ⟨v, _⟩ := dateOf_spec s s1 s2
  have hof : ofF s = (((dateOf s).1, (dateOf s).2.1, (dateOf s).2.2), 0) := by unfold ofF; rw [if_pos ⟨s1, s2⟩]
  have a1 := v.y1; have a2 := v.y2; have a3 := v.m1; have a4 := v.m2; have a5 := v.d1
  have a6 : (dateOf s).2.2 ≤ 31 := Int.le_trans v.d2 (len_bd _ _ v.m1 v.m2).2
  rcases (show u = 1 ∨ u = 2 ∨ u = 3 ∨ u = 4 by omega) with rfl | rfl | rfl | rfl
  · have hl := dayR_lin 1 N s k X hX (.inl rfl)
    simp only [show ¬((1 : Int) = 2) by decide, if_false] at hl
    unfold aT
    by_cases g : 3652059 < s + X
    · rw [if_pos g] at hl
      have HL := Lib.hid hl; clear hl
      go_enter Try.func51, Try.ntmps51
      go_wp2
      go_ret
      exact ⟨by rw [HL.out]; rfl, (br _).alloc (Nat.le_refl _) _⟩
    · rw [if_neg g] at hl
      have HL := Lib.hid hl; clear hl
      go_enter Try.func51, Try.ntmps51
      go_wp2
      go_ret
      exact ⟨by rw [HL.out]; rfl, (br _).alloc (Nat.le_refl _) _⟩
  · have hl := dayR_lin 2 N s k X hX (.inr rfl)
    rw [if_pos rfl] at hl
    unfold aT
    by_cases g : 3652059 < s + 7 * X
    · rw [if_pos g] at hl
      have HL := Lib.hid hl; clear hl
      go_enter Try.func51, Try.ntmps51
      go_wp2
      go_ret
      exact ⟨by rw [HL.out]; rfl, (br _).alloc (Nat.le_refl _) _⟩
    · rw [if_neg g] at hl
      have HL := Lib.hid hl; clear hl
      go_enter Try.func51, Try.ntmps51
      go_wp2
      go_ret
      exact ⟨by rw [HL.out]; rfl, (br _).alloc (Nat.le_refl _) _⟩
  · have hZ : rawT 3 N s k = monthsF s X := by unfold rawT; rw [hX, if_neg (by decide), if_neg (by decide), if_neg (by decide)]
    refine mon3_any s N k X (X / 12) (X % 12) _ _ _ w hX x0 x1 (Int.tdiv_eq_ediv_of_nonneg x0) (Int.tmod_eq_emod_of_nonneg x0) (Lib.hid hof) (by omega) (by omega) (by omega) (by omega) a1 a2 a3 a4 a5 a6 _ (Lib.hid (fun y m h1 h2 h3 => ?_))
    exact dayR_mon 3 N s k X hZ s1 s2 x0 y m ⟨h1, h2⟩ (by unfold mo; omega)
  · have hZ : rawT 4 N s k = monthsF s (X * 12) := by unfold rawT; rw [hX, if_neg (by decide), if_neg (by decide), if_pos rfl, Int.mul_comm]
    refine mon4_any s N k X (X * 12) (X * 12 / 12) (X * 12 % 12) _ _ _ w hX x0 x1 rfl (Int.tdiv_eq_ediv_of_nonneg (by omega)) (Int.tmod_eq_emod_of_nonneg (by omega)) (Lib.hid hof) (by omega) (by omega) (by omega) (by omega) a1 a2 a3 a4 a5 a6 _ (Lib.hid (fun y m h1 h2 h3 => ?_))
    exact dayR_mon 4 N s k (X * 12) hZ s1 s2 (by omega) y m ⟨h1, h2⟩ (by unfold mo; omega)
end Dt
end Go.Proofs.Ytcgncmlldjblmaa
