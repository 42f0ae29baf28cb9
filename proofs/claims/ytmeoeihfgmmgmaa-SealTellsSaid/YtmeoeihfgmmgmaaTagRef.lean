/- The document's exclusive or and its turns. -/
import Derived.Test.YtmeoeihfgmmgmaaTagBits
import Derived.Test.YtmeoeihfgmmgmaaTagLaws
import Derived.Deep.LoopGhost
set_option linter.unusedVariables false
namespace Go.Proofs.Ytmeoeihfgmmgmaa
open Go.RowKit
namespace Tg
abbrev NatW (n : Nat) : Value := .int .u64 (n : Int)
set_option maxHeartbeats 1000000 in
theorem xored_any (A B : W64) (w : World) : Calls Try.prog 42 #[.int .u64 (wi A), .int .u64 (wi B)] w fun e w' => e = .returned (.int .u64 (wi (A ^^^ B))) ∧ Below w.heap.size w w' := by
  have hA : wi A = (dn A 0 : Nat) := by unfold wi dn; simp
  have hB : wi B = (dn B 0 : Nat) := by unfold wi dn; simp
  have HX := Lib.hid (xo_all A B)
  rw [hA, hB]
  clear hA hB
  go_enter Try.func42, Try.ntmps42
  go_wp2
  go_loopw [0, 1, 5, 6, 7] (fun a b o u i wr => ∃ k : Nat, k ≤ 64 ∧ i = .int .i64 k ∧ a = NatW (dn A k) ∧ b = NatW (dn B k) ∧ o = NatW (xo A B k) ∧ u = NatW (up k) ∧ Below w.heap.size w wr) (fun _ _ _ _ i _ => 64 - (intOf i).toNat)
  case atStart => exact ⟨0, by omega, rfl, rfl, rfl, by rw [show xo A B 0 = 0 by unfold xo; omega]; rfl, rfl, br w⟩
  case round =>
    obtain ⟨k, hk, rfl, rfl, rfl, rfl, rfl, hbw⟩ := hrel
    by_cases hlt : k < 64
    · have s1 := dn_succ A k
      have s2 := dn_succ B k
      have s3 := xo_succ A B k hlt
      have s4 := up_succ k
      have b1 := dn_bd A k
      have b2 := dn_bd B k
      have b3 := xo_bd A B k
      have b4 := xo_bd A B (k + 1)
      have S1 := Lib.hid s1; have S2 := Lib.hid s2
      obtain ⟨x', hx'⟩ : ∃ x', dn A (k + 1) = x' := ⟨_, rfl⟩
      obtain ⟨y', hy'⟩ : ∃ x', dn B (k + 1) = x' := ⟨_, rfl⟩
      obtain ⟨o', ho'⟩ : ∃ x', xo A B (k + 1) = x' := ⟨_, rfl⟩
      obtain ⟨u', hu'⟩ : ∃ x', up (k + 1) = x' := ⟨_, rfl⟩
      rw [hx'] at s1; rw [hy'] at s2; rw [ho'] at s3 b4; rw [hu'] at s4
      have HX' := Lib.hid hx'; have HY' := Lib.hid hy'; have HO' := Lib.hid ho'; have HU' := Lib.hid hu'
      clear hx' hy' ho' hu'
      have b5 : up k ≤ 18446744073709551615 := by unfold up; omega
      generalize dn A k = x at *
      generalize dn B k = y at *
      generalize xo A B k = o at *
      generalize up k = u at *
      have d1 : (x : Int).tdiv 2 = (x' : Int) := by rw [Int.tdiv_eq_ediv_of_nonneg (by omega)]; omega
      have d2 : (y : Int).tdiv 2 = (y' : Int) := by rw [Int.tdiv_eq_ediv_of_nonneg (by omega)]; omega
      have d1' : (x : Int) / 2 = (x' : Int) := by omega
      have d2' : (y : Int) / 2 = (y' : Int) := by omega
      have m1 : (x : Int).tmod 2 = (x : Int) % 2 := Int.tmod_eq_emod_of_nonneg (by omega)
      have m2 : (y : Int).tmod 2 = (y : Int) % 2 := Int.tmod_eq_emod_of_nonneg (by omega)
      have hw : IntKind.u64.wrap ((u : Int) * 2) = (u' : Int) := by rw [IntKind.wrap_u64]; omega
      by_cases hd : x % 2 = y % 2
      · rw [if_pos hd] at s3
        subst s3
        have hne : ((x : Int) % 2 != (y : Int) % 2) = false := by simp; omega
        have S4 := Lib.hid s4
        clear s1 s2 s4 hd
        go_wp2
        go_roundw
        case rel => exact ⟨k + 1, by omega, by go_num, by rw [HX'.out], by rw [HY'.out], by rw [HO'.out], by rw [HU'.out], by first | exact hbw | exact bn hbw _⟩
        case measure => simp [intOf]; omega
      · rw [if_neg hd] at s3
        have hne : ((x : Int) % 2 != (y : Int) % 2) = true := by simp; omega
        have hs : (o : Int) + (u : Int) = (o' : Int) := by omega
        have S3 := Lib.hid s3; have S4 := Lib.hid s4
        clear s1 s2 s3 s4 hd
        go_wp2
        go_roundw
        case rel => exact ⟨k + 1, by omega, by go_num, by rw [HX'.out], by rw [HY'.out], by rw [HO'.out], by rw [HU'.out], by first | exact hbw | exact bn hbw _⟩
        case measure => simp [intOf]; omega
    · obtain rfl : k = 64 := by omega
      go_wp2
      go_ret
      exact ⟨by rw [← HX.out]; rfl, by first | exact hbw | exact bn hbw _⟩
set_option maxHeartbeats 1000000 in
theorem turned_any (x : W64) (r : Nat) (hr : r ≤ 63) (w : World) : Calls Try.prog 46 #[.int .u64 (wi x), .int .i64 r] w fun e w' => e = .returned (.int .u64 (wi (x.rotateLeft r))) ∧ Below w.heap.size w w' := by
  have h0 : wi x = wi (x.rotateLeft 0) := by rw [rl_zero]
  have H0 := Lib.hid h0; clear h0
  go_enter Try.func46, Try.ntmps46
  go_wp2
  go_loopw [0, 5] (fun n i wr => ∃ k : Nat, k ≤ r ∧ i = .int .i64 k ∧ n = .int .u64 (wi (x.rotateLeft k)) ∧ Below w.heap.size w wr) (fun _ i _ => r - (intOf i).toNat)
  case atStart => exact ⟨0, by omega, rfl, by rw [H0.out], br w⟩
  case round =>
    obtain ⟨k, hk, rfl, rfl, hbw⟩ := hrel
    by_cases hlt : k < r
    · have s1 := rl_succ x k (by omega)
      have s2 := rl_one (x.rotateLeft k)
      rw [s1] at s2
      have b := (x.rotateLeft k).isLt
      have hx : wi (x.rotateLeft k) = ((x.rotateLeft k).toNat : Int) := rfl
      have hy : wi (x.rotateLeft (k + 1)) = ((x.rotateLeft (k + 1)).toNat : Int) := rfl
      generalize (x.rotateLeft (k + 1)).toNat = n' at *
      generalize (x.rotateLeft k).toNat = n at *
      rw [hx]
      have d1 : (n : Int).tdiv 9223372036854775808 = (n : Int) / 9223372036854775808 := Int.tdiv_eq_ediv_of_nonneg (by omega)
      obtain ⟨q, hq⟩ : ∃ q : Int, (n : Int) / 9223372036854775808 = q := ⟨_, rfl⟩
      obtain ⟨p, hp⟩ : ∃ p : Int, IntKind.u64.wrap (2 * (n : Int)) = p := ⟨_, rfl⟩
      have hp2 := hp
      rw [IntKind.wrap_u64] at hp2
      have hq0 : 0 ≤ q ∧ q ≤ 1 := by omega
      have hp0 : 0 ≤ p ∧ p ≤ 18446744073709551614 := by omega
      have hpq : p + q = (n' : Int) := by omega
      have hn : (n : Int) ≤ 18446744073709551615 := by omega
      have hn' : (n' : Int) ≤ 18446744073709551615 := by omega
      have hq1 := hq0.1; have hq2 := hq0.2; have hp1 := hp0.1; have hp3 := hp0.2
      have HY := Lib.hid hy
      rw [hq] at d1
      clear s1 s2 b hx hp2 hy hq0 hp0
      go_wp2
      go_roundw
      case rel => exact ⟨k + 1, by omega, by go_num, by rw [HY.out], by first | exact hbw | exact bn hbw _⟩
      case measure => simp [intOf]; omega
    · obtain rfl : k = r := by omega
      go_wp2
      go_ret
      exact ⟨rfl, by first | exact hbw | exact bn hbw _⟩
end Tg
end Go.Proofs.Ytmeoeihfgmmgmaa
