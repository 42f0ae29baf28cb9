/- Package date, fifth part: the day of a week. -/
import Derived.Test.YtipgnmecahbddaaDateWalks4
namespace Go.Proofs.Ytipgnmecahbddaa
open Go.RowKit
namespace Dt
def OfWeekQ (y k d : Int) (w : World) (e : Ending) (w' : World) : Prop := e = .returned (.tuple #[.int .i64 (ofWeek y k d).1, .int .i64 (ofWeek y k d).2]) ∧ Below w.heap.size w w'
set_option maxHeartbeats 2000000 in
theorem ofWeek_any (y k d : Int) (w : World) : Calls Try.prog 27 #[.agg #[.int .i64 y, .int .i64 k, .int .i64 d]] w (OfWeekQ y k d w) := by
  by_cases h : 1 ≤ y ∧ y ≤ 9999 ∧ 1 ≤ k ∧ k ≤ 53 ∧ 1 ≤ d ∧ d ≤ 7
  · have ho : ofWeek y k d = if (1 ≤ first y + 7 * (k - 1) + d - 1 ∧ first y + 7 * (k - 1) + d - 1 ≤ 3652059) ∧ first y + 7 * (k - 1) + d - 1 - d + 1 < first (y + 1) then (first y + 7 * (k - 1) + d - 1, 0) else (0, 3) := by
      unfold ofWeek; rw [if_pos h]
    obtain ⟨h1, h2, h3, h4, h5, h6⟩ := h
    have b1 := dby_bd y h1 (by omega)
    have b2 := dby_bd (y + 1) (by omega) (by omega)
    have f1 := first_bd y
    have f2 := first_bd (y + 1)
    have l1 : -2 ≤ first y ∧ first y ≤ 7500000 := by omega
    have l2 : -2 ≤ first (y + 1) ∧ first (y + 1) ≤ 7500000 := by omega
    clear b1 b2 f1 f2
    have s1 : IntKind.i64.wrap (k - 1) = k - 1 := IntWalk.i64_in _ (by omega)
    have s2 : IntKind.i64.wrap (7 * (k - 1)) = 7 * (k - 1) := IntWalk.i64_in _ (by omega)
    have s3 : IntKind.i64.wrap (first y + 7 * (k - 1)) = first y + 7 * (k - 1) := IntWalk.i64_in _ (by omega)
    have s4 : IntKind.i64.wrap (first y + 7 * (k - 1) + d) = first y + 7 * (k - 1) + d := IntWalk.i64_in _ (by omega)
    have s5 : IntKind.i64.wrap (first y + 7 * (k - 1) + d - 1) = first y + 7 * (k - 1) + d - 1 := IntWalk.i64_in _ (by omega)
    have S1 := Lib.hid s1; have S2 := Lib.hid s2; have S3 := Lib.hid s3; have S4 := Lib.hid s4; have S5 := Lib.hid s5
    clear s1 s2 s3 s4 s5
    by_cases c1 : 1 ≤ first y + 7 * (k - 1) + d - 1 ∧ first y + 7 * (k - 1) + d - 1 ≤ 3652059
    · have hi := isD_yes c1.1 c1.2
      by_cases c2 : first y + 7 * (k - 1) + d - 1 - d + 1 < first (y + 1)
      all_goals
        first | rw [if_pos (And.intro c1 c2)] at ho | rw [if_neg (fun x : (_ ∧ _) ∧ _ => c2 x.2)] at ho
        have c3 : IntKind.i64.wrap (first y + 7 * (k - 1) + d - 1 - d) = first y + 7 * (k - 1) + d - 1 - d := IntWalk.i64_in _ (by omega)
        have c4 : IntKind.i64.wrap (first y + 7 * (k - 1) + d - 1 - d + 1) = first y + 7 * (k - 1) + d - 1 - d + 1 := IntWalk.i64_in _ (by omega)
        have c5 : IntKind.i64.wrap (y + 1) = y + 1 := IntWalk.i64_in _ (by omega)
        first | (have c6 : decide (first (y + 1) ≤ first y + 7 * (k - 1) + d - 1 - d + 1) = false := decide_eq_false (by omega)) | (have c6 : decide (first (y + 1) ≤ first y + 7 * (k - 1) + d - 1 - d + 1) = true := decide_eq_true (by omega))
        have C3 := Lib.hid c3; have C4 := Lib.hid c4; have C5 := Lib.hid c5; have C6 := Lib.hid c6
        have Ho := Lib.hid ho; have Hi := Lib.hid hi; clear ho hi c1 c2 c3 c4 c5 c6
        go_enter Try.func27, Try.ntmps27
        go_wp2_with fail
        have s1 := S1.out; have s2 := S2.out; have s3 := S3.out; have s4 := S4.out; have s5 := S5.out
        go_quiet ((go_at_call 37; exact qz (first_any _ _ h1 (by omega))))
        clear s1 s2 s3 s4 s5
        generalize first y + 7 * (k - 1) + d - 1 = N at *
        go_wp2_with fail
        have hi := Hi.out; have c3 := C3.out; have c4 := C4.out; have c5 := C5.out; have c6 := C6.out
        go_quiet (first | (go_at_call 37; first | exact qz (first_any _ _ (by omega) (by omega)) | exact qa (first_any _ _ (by omega) (by omega))) | (go_at_call 35; first | exact qz (is_any _ _) | exact qa (is_any _ _)))
        clear hi c3 c4 c5 c6
        go_wp2
        go_ret2
        exact ⟨by rw [Ho.out]; rfl, bn (bn ((br _).alloc (Nat.le_refl _) _) _) _⟩
    · have hi := isD_no (show first y + 7 * (k - 1) + d - 1 < 1 ∨ 3652059 < first y + 7 * (k - 1) + d - 1 by omega)
      rw [if_neg (fun x => c1 x.1)] at ho
      have Ho := Lib.hid ho; have Hi := Lib.hid hi; clear ho hi c1
      go_enter Try.func27, Try.ntmps27
      go_wp2_with fail
      have s1 := S1.out; have s2 := S2.out; have s3 := S3.out; have s4 := S4.out; have s5 := S5.out
      go_quiet ((go_at_call 37; exact qz (first_any _ _ h1 (by omega))))
      clear s1 s2 s3 s4 s5
      generalize first y + 7 * (k - 1) + d - 1 = N at *
      go_wp2_with fail
      have hi := Hi.out
      go_quiet ((go_at_call 35; first | exact qz (is_any _ _) | exact qa (is_any _ _)))
      clear hi
      go_wp2
      go_ret2
      exact ⟨by rw [Ho.out]; rfl, bn (bn ((br _).alloc (Nat.le_refl _) _) _) _⟩
  · have ho : ofWeek y k d = (0, 3) := by unfold ofWeek; rw [if_neg h]
    have Ho := Lib.hid ho; clear ho
    rcases (show y < 1 ∨ (1 ≤ y ∧ 9999 < y) ∨ (1 ≤ y ∧ y ≤ 9999 ∧ k < 1) ∨ (1 ≤ y ∧ y ≤ 9999 ∧ 1 ≤ k ∧ 53 < k) ∨ (1 ≤ y ∧ y ≤ 9999 ∧ 1 ≤ k ∧ k ≤ 53 ∧ d < 1) ∨ (1 ≤ y ∧ y ≤ 9999 ∧ 1 ≤ k ∧ k ≤ 53 ∧ 1 ≤ d ∧ 7 < d) by omega) with g | ⟨g1, g⟩ | ⟨g1, g2, g⟩ | ⟨g1, g2, g3, g⟩ | ⟨g1, g2, g3, g4, g⟩ | ⟨g1, g2, g3, g4, g5, g⟩
    all_goals
      clear h
      go_enter Try.func27, Try.ntmps27
      go_wp2
      go_ret2
      exact ⟨by rw [Ho.out]; rfl, (br _).alloc (Nat.le_refl _) _⟩
end Dt
end Go.Proofs.Ytipgnmecahbddaa
