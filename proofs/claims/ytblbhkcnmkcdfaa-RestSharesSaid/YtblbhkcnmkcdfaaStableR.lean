/- The library's stable sort at ints: a middle piece turned about. -/
import Derived.Test.YtblbhkcnmkcdfaaStableI
import Derived.Deep.LoopGhost
set_option linter.unusedSimpArgs false
set_option linter.unusedVariables false
namespace Go.Proofs.Ytblbhkcnmkcdfaa
open Go.RowKit
namespace Stb
set_option maxRecDepth 100000 in
set_option maxHeartbeats 4000000 in
theorem rotate_any (w0 : World) (blk N cap bc : Nat) (d : Arr) (a m b : Nat) (w : World) (h : St w0 blk N d w) (ha : a < m) (hm : m < b) (hb : b ≤ N) (hN : N ≤ 1000) :
    Calls Try.prog 33 #[.slice (some ⟨blk, 0, none⟩) N cap, .int .i64 a, .int .i64 m, .int .i64 b, fv bc] w (StQ w0 blk N (rot d a m b)) := by
  have H0 := Lib.hid h
  have HR0 : RowKit.Hid (rot d (m - (m - a)) m (m + (b - m)) = rot d a m b) := Lib.hid (by rw [show m - (m - a) = a by omega, show m + (b - m) = b by omega])
  have HI0 : RowKit.Hid ((m : Int) - (a : Int) = ((m - a : Nat) : Int)) := Lib.hid (by omega)
  have HJ0 : RowKit.Hid ((b : Int) - (m : Int) = ((b - m : Nat) : Int)) := Lib.hid (by omega)
  clear h
  go_enter Try.func33, Try.ntmps33
  go_wp2
  go_loopw [10, 11] (fun s5 s6 wr => ∃ (i j : Nat) (e : Arr), 0 < i ∧ 0 < j ∧ i ≤ m ∧ m + j ≤ N ∧ s5 = .int .i64 i ∧ s6 = .int .i64 j ∧ rot e (m - i) m (m + j) = rot d a m b ∧ St w0 blk N e wr) (fun s5 s6 _ => (intOf s5 + intOf s6).toNat)
  case atStart => exact ⟨m - a, b - m, d, by omega, by omega, by omega, by omega, by rw [HI0.out], by rw [HJ0.out], HR0.out, H0.out⟩
  case round =>
    obtain ⟨i, j, e, hi, hj, hi2, hj2, rfl, rfl, hr, hs⟩ := hrel
    have HR := Lib.hid hr; have HS := Lib.hid hs
    have hC := fun (x y n : Nat) h1 h2 => swapRange_any w0 blk N cap bc e x y n wr hs h1 h2 hN
    have HC := Lib.hid hC
    clear hr hs hC
    have b1 : (m : Int) ≤ 1000 := by omega
    have b2 : (i : Int) ≤ (m : Int) := by omega
    have b3 : (j : Int) ≤ 1000 := by omega
    rcases Nat.lt_trichotomy i j with c | c | c
    · have hne : ((i : Int) != (j : Int)) = true := by simp; omega
      have hgt : decide ((i : Int) > (j : Int)) = false := decide_eq_false (by omega)
      have hgt2 : decide ((j : Int) < (i : Int)) = false := decide_eq_false (by omega)
      have hc := HC.out (m - i) (m + j - i) i (by omega) (by omega)
      rw [show ((m - i : Nat) : Int) = (m : Int) - (i : Int) by omega, show ((m + j - i : Nat) : Int) = (m : Int) + (j : Int) - (i : Int) by omega] at hc
      have HC2 := Lib.hid hc
      clear hc
      go_wp2_with fail
      refine HC2.out.mono ?_
      rintro en w2 ⟨rfl, h2⟩
      have H2 := Lib.hid h2
      have HX : RowKit.Hid (rot (xch e (m - i) (m + j - i) i) (m - i) m (m + (j - i)) = rot d a m b) := Lib.hid (by rw [rot_lt e m i j hi2 c]; exact HR.out)
      have HJ : RowKit.Hid ((j : Int) - (i : Int) = ((j - i : Nat) : Int)) := Lib.hid (by omega)
      clear h2
      go_wp2
      go_roundw
      case rel => exact ⟨i, j - i, _, hi, by omega, hi2, by omega, rfl, by rw [HJ.out], HX.out, H2.out⟩
      case measure => simp [intOf]; omega
    · subst c
      have hne : ((i : Int) != (i : Int)) = false := by simp
      have hc := HC.out (m - i) m i (by omega) (by omega)
      rw [show ((m - i : Nat) : Int) = (m : Int) - (i : Int) by omega] at hc
      have HC2 := Lib.hid hc
      clear hc
      go_wp2_with fail
      refine HC2.out.mono ?_
      rintro en w2 ⟨rfl, h2⟩
      rw [← rot_eq e m i hi2, HR.out] at h2
      go_wp2
      go_end0
      exact ⟨rfl, h2⟩
    · have hne : ((i : Int) != (j : Int)) = true := by simp; omega
      have hgt : (i : Int) > (j : Int) := by omega
      have hc := HC.out (m - i) m j (by omega) (by omega)
      rw [show ((m - i : Nat) : Int) = (m : Int) - (i : Int) by omega] at hc
      have HC2 := Lib.hid hc
      clear hc
      go_wp2_with fail
      refine HC2.out.mono ?_
      rintro en w2 ⟨rfl, h2⟩
      have H2 := Lib.hid h2
      have HX : RowKit.Hid (rot (xch e (m - i) m j) (m - (i - j)) m (m + j) = rot d a m b) := Lib.hid (by rw [rot_gt e m i j hi2 c]; exact HR.out)
      have HJ : RowKit.Hid ((i : Int) - (j : Int) = ((i - j : Nat) : Int)) := Lib.hid (by omega)
      clear h2
      go_wp2
      go_roundw
      case rel => exact ⟨i - j, j, _, by omega, hj, by omega, hj2, by rw [HJ.out], rfl, HX.out, H2.out⟩
      case measure => simp [intOf]; omega
end Stb
end Go.Proofs.Ytblbhkcnmkcdfaa
