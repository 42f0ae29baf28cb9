/- The document's Easter, case by case. -/
import Derived.Test.YtjicpflgkhdppaaEasterWalksw
set_option linter.unusedSimpArgs false
set_option linter.unusedVariables false
namespace Go.Proofs.Ytjicpflgkhdppaa
open Go.RowKit
namespace Dt
set_option maxHeartbeats 1000000 in
theorem eof_a0 (y a b c d r0 S R : Int) (w : World) (h1 : 1583 ≤ y) (h2 : y ≤ 9999) (q0 : 0 ≤ a ∧ a ≤ 18) (q1 : 15 ≤ b ∧ b ≤ 99) (x1 : y % 19 = a) (x2 : y / 100 = b) (x3 : 3 * (b + 1) / 4 = c) (x4 : (8 * (b + 1) + 5) / 25 = d) (q2 : 10 ≤ c ∧ c ≤ 80) (q3 : 5 ≤ d ∧ d ≤ 40)
    (x5 : (11 * (a + 1) + 20 + (d - 5) - (c - 12)).tmod 30 = 24) (Hr : RowKit.Hid (raw y 3 1 = r0)) (hr : 1 ≤ r0 ∧ r0 ≤ 4000000) (hS : r0 + (49) = S) (hSR : S ≤ R) (hR : R ≤ S + 6) (W1 : RowKit.Hid (∀ m : Int, S ≤ m → m < R → (wd m != 7) = true)) (W2 : RowKit.Hid (wd R = 7)) (Hs : RowKit.Hid (sunF y = (R, 0))) : Calls Try.prog 80 #[.int .i64 y] w (SunQ y w) := by
  have HS := Lib.hid hS; clear hS
  go_enter Try.func80, Try.ntmps80
  go_wp2_with fail
  refine (dayOfR_any y 3 1 _ (by omega) (by omega) (by decide) (by decide) (by decide) (by decide)).mono ?_
  rintro en w1 ⟨rfl, hb1⟩
  rw [Hr.out]
  go_wp2_with fail
  skip
  go_loop [11] (fun n => ∃ m : Int, S ≤ m ∧ m ≤ R ∧ n = .int .i64 m) (fun n => (R - intOf n).toNat)
  case atStart => exact ⟨S, by omega, hSR, by have := HS.out; first | rfl | (simp; omega)⟩
  case round =>
    obtain ⟨m, m1, m2, rfl⟩ := hrel
    have mb : 0 ≤ m ∧ m ≤ 5000000 := by have := HS.out; omega
    by_cases hm : m = R
    · subst hm
      go_wp2_with fail
      refine (dayOfWeek_any m _ (by have := HS.out; omega) (by have := HS.out; omega)).mono ?_
      rintro en w2 ⟨rfl, he2⟩
      subst he2
      rw [W2.out]
      go_wp2
      go_ret2
      exact ⟨by rw [Hs.out]; rfl, hb1⟩
    · have hw := W1.out m m1 (by omega)
      have hm2 : m + 1 ≤ R := by omega
      clear hm
      go_wp2_with fail
      refine (dayOfWeek_any m _ (by have := HS.out; omega) (by have := HS.out; omega)).mono ?_
      rintro en w2 ⟨rfl, he2⟩
      subst he2
      go_wp2
      go_round
      case rel => exact ⟨m + 1, by omega, hm2, by first | rfl | go_num⟩
      case measure => simp [intOf]; omega
set_option maxHeartbeats 1000000 in
theorem eof_b0 (y a b c d r0 S R : Int) (w : World) (h1 : 1583 ≤ y) (h2 : y ≤ 9999) (q0 : 0 ≤ a ∧ a ≤ 18) (q1 : 15 ≤ b ∧ b ≤ 99) (hc : 11 ≤ a) (x1 : y % 19 = a) (x2 : y / 100 = b) (x3 : 3 * (b + 1) / 4 = c) (x4 : (8 * (b + 1) + 5) / 25 = d) (q2 : 10 ≤ c ∧ c ≤ 80) (q3 : 5 ≤ d ∧ d ≤ 40)
    (x5 : (11 * (a + 1) + 20 + (d - 5) - (c - 12)).tmod 30 = 25) (Hr : RowKit.Hid (raw y 3 1 = r0)) (hr : 1 ≤ r0 ∧ r0 ≤ 4000000) (hS : r0 + (48) = S) (hSR : S ≤ R) (hR : R ≤ S + 6) (W1 : RowKit.Hid (∀ m : Int, S ≤ m → m < R → (wd m != 7) = true)) (W2 : RowKit.Hid (wd R = 7)) (Hs : RowKit.Hid (sunF y = (R, 0))) : Calls Try.prog 80 #[.int .i64 y] w (SunQ y w) := by
  have HS := Lib.hid hS; clear hS
  go_enter Try.func80, Try.ntmps80
  go_wp2_with fail
  refine (dayOfR_any y 3 1 _ (by omega) (by omega) (by decide) (by decide) (by decide) (by decide)).mono ?_
  rintro en w1 ⟨rfl, hb1⟩
  rw [Hr.out]
  go_wp2_with fail
  skip
  go_loop [11] (fun n => ∃ m : Int, S ≤ m ∧ m ≤ R ∧ n = .int .i64 m) (fun n => (R - intOf n).toNat)
  case atStart => exact ⟨S, by omega, hSR, by have := HS.out; first | rfl | (simp; omega)⟩
  case round =>
    obtain ⟨m, m1, m2, rfl⟩ := hrel
    have mb : 0 ≤ m ∧ m ≤ 5000000 := by have := HS.out; omega
    by_cases hm : m = R
    · subst hm
      go_wp2_with fail
      refine (dayOfWeek_any m _ (by have := HS.out; omega) (by have := HS.out; omega)).mono ?_
      rintro en w2 ⟨rfl, he2⟩
      subst he2
      rw [W2.out]
      go_wp2
      go_ret2
      exact ⟨by rw [Hs.out]; rfl, hb1⟩
    · have hw := W1.out m m1 (by omega)
      have hm2 : m + 1 ≤ R := by omega
      clear hm
      go_wp2_with fail
      refine (dayOfWeek_any m _ (by have := HS.out; omega) (by have := HS.out; omega)).mono ?_
      rintro en w2 ⟨rfl, he2⟩
      subst he2
      go_wp2
      go_round
      case rel => exact ⟨m + 1, by omega, hm2, by first | rfl | go_num⟩
      case measure => simp [intOf]; omega
set_option maxHeartbeats 1000000 in
theorem eof_c0 (y a b c d r0 S R : Int) (w : World) (h1 : 1583 ≤ y) (h2 : y ≤ 9999) (q0 : 0 ≤ a ∧ a ≤ 18) (q1 : 15 ≤ b ∧ b ≤ 99) (hc : a ≤ 10) (x1 : y % 19 = a) (x2 : y / 100 = b) (x3 : 3 * (b + 1) / 4 = c) (x4 : (8 * (b + 1) + 5) / 25 = d) (q2 : 10 ≤ c ∧ c ≤ 80) (q3 : 5 ≤ d ∧ d ≤ 40)
    (x5 : (11 * (a + 1) + 20 + (d - 5) - (c - 12)).tmod 30 = 25) (Hr : RowKit.Hid (raw y 3 1 = r0)) (hr : 1 ≤ r0 ∧ r0 ≤ 4000000) (hS : r0 + (49) = S) (hSR : S ≤ R) (hR : R ≤ S + 6) (W1 : RowKit.Hid (∀ m : Int, S ≤ m → m < R → (wd m != 7) = true)) (W2 : RowKit.Hid (wd R = 7)) (Hs : RowKit.Hid (sunF y = (R, 0))) : Calls Try.prog 80 #[.int .i64 y] w (SunQ y w) := by
  have HS := Lib.hid hS; clear hS
  go_enter Try.func80, Try.ntmps80
  go_wp2_with fail
  refine (dayOfR_any y 3 1 _ (by omega) (by omega) (by decide) (by decide) (by decide) (by decide)).mono ?_
  rintro en w1 ⟨rfl, hb1⟩
  rw [Hr.out]
  go_wp2_with fail
  skip
  go_loop [11] (fun n => ∃ m : Int, S ≤ m ∧ m ≤ R ∧ n = .int .i64 m) (fun n => (R - intOf n).toNat)
  case atStart => exact ⟨S, by omega, hSR, by have := HS.out; first | rfl | (simp; omega)⟩
  case round =>
    obtain ⟨m, m1, m2, rfl⟩ := hrel
    have mb : 0 ≤ m ∧ m ≤ 5000000 := by have := HS.out; omega
    by_cases hm : m = R
    · subst hm
      go_wp2_with fail
      refine (dayOfWeek_any m _ (by have := HS.out; omega) (by have := HS.out; omega)).mono ?_
      rintro en w2 ⟨rfl, he2⟩
      subst he2
      rw [W2.out]
      go_wp2
      go_ret2
      exact ⟨by rw [Hs.out]; rfl, hb1⟩
    · have hw := W1.out m m1 (by omega)
      have hm2 : m + 1 ≤ R := by omega
      clear hm
      go_wp2_with fail
      refine (dayOfWeek_any m _ (by have := HS.out; omega) (by have := HS.out; omega)).mono ?_
      rintro en w2 ⟨rfl, he2⟩
      subst he2
      go_wp2
      go_round
      case rel => exact ⟨m + 1, by omega, hm2, by first | rfl | go_num⟩
      case measure => simp [intOf]; omega
set_option maxHeartbeats 1000000 in
theorem eof_d0 (y a b c d r0 S R : Int) (ep : Int) (w : World) (h1 : 1583 ≤ y) (h2 : y ≤ 9999) (q0 : 0 ≤ a ∧ a ≤ 18) (q1 : 15 ≤ b ∧ b ≤ 99) (he : 0 ≤ ep ∧ ep ≤ 29) (hc : ep ≤ 23) (x1 : y % 19 = a) (x2 : y / 100 = b) (x3 : 3 * (b + 1) / 4 = c) (x4 : (8 * (b + 1) + 5) / 25 = d) (q2 : 10 ≤ c ∧ c ≤ 80) (q3 : 5 ≤ d ∧ d ≤ 40)
    (x5 : (11 * (a + 1) + 20 + (d - 5) - (c - 12)).tmod 30 = ep) (Hr : RowKit.Hid (raw y 3 1 = r0)) (hr : 1 ≤ r0 ∧ r0 ≤ 4000000) (hS : r0 + (44 - ep) = S) (hSR : S ≤ R) (hR : R ≤ S + 6) (W1 : RowKit.Hid (∀ m : Int, S ≤ m → m < R → (wd m != 7) = true)) (W2 : RowKit.Hid (wd R = 7)) (Hs : RowKit.Hid (sunF y = (R, 0))) : Calls Try.prog 80 #[.int .i64 y] w (SunQ y w) := by
  have z2 : (ep == 25) = false := beq_eq_false_iff_ne.2 (by omega)
  have z3 : (ep == 24) = false := beq_eq_false_iff_ne.2 (by omega)
  have HS := Lib.hid hS; clear hS
  go_enter Try.func80, Try.ntmps80
  go_wp2_with fail
  refine (dayOfR_any y 3 1 _ (by omega) (by omega) (by decide) (by decide) (by decide) (by decide)).mono ?_
  rintro en w1 ⟨rfl, hb1⟩
  rw [Hr.out]
  go_wp2_with fail
  skip
  go_loop [11] (fun n => ∃ m : Int, S ≤ m ∧ m ≤ R ∧ n = .int .i64 m) (fun n => (R - intOf n).toNat)
  case atStart => exact ⟨S, by omega, hSR, by have := HS.out; first | rfl | (simp; omega)⟩
  case round =>
    obtain ⟨m, m1, m2, rfl⟩ := hrel
    have mb : 0 ≤ m ∧ m ≤ 5000000 := by have := HS.out; omega
    by_cases hm : m = R
    · subst hm
      go_wp2_with fail
      refine (dayOfWeek_any m _ (by have := HS.out; omega) (by have := HS.out; omega)).mono ?_
      rintro en w2 ⟨rfl, he2⟩
      subst he2
      rw [W2.out]
      go_wp2
      go_ret2
      exact ⟨by rw [Hs.out]; rfl, hb1⟩
    · have hw := W1.out m m1 (by omega)
      have hm2 : m + 1 ≤ R := by omega
      clear hm
      go_wp2_with fail
      refine (dayOfWeek_any m _ (by have := HS.out; omega) (by have := HS.out; omega)).mono ?_
      rintro en w2 ⟨rfl, he2⟩
      subst he2
      go_wp2
      go_round
      case rel => exact ⟨m + 1, by omega, hm2, by first | rfl | go_num⟩
      case measure => simp [intOf]; omega
set_option maxHeartbeats 1000000 in
theorem eof_e0 (y a b c d r0 S R : Int) (ep : Int) (w : World) (h1 : 1583 ≤ y) (h2 : y ≤ 9999) (q0 : 0 ≤ a ∧ a ≤ 18) (q1 : 15 ≤ b ∧ b ≤ 99) (he : 0 ≤ ep ∧ ep ≤ 29) (hc : 26 ≤ ep) (x1 : y % 19 = a) (x2 : y / 100 = b) (x3 : 3 * (b + 1) / 4 = c) (x4 : (8 * (b + 1) + 5) / 25 = d) (q2 : 10 ≤ c ∧ c ≤ 80) (q3 : 5 ≤ d ∧ d ≤ 40)
    (x5 : (11 * (a + 1) + 20 + (d - 5) - (c - 12)).tmod 30 = ep) (Hr : RowKit.Hid (raw y 3 1 = r0)) (hr : 1 ≤ r0 ∧ r0 ≤ 4000000) (hS : r0 + (74 - ep) = S) (hSR : S ≤ R) (hR : R ≤ S + 6) (W1 : RowKit.Hid (∀ m : Int, S ≤ m → m < R → (wd m != 7) = true)) (W2 : RowKit.Hid (wd R = 7)) (Hs : RowKit.Hid (sunF y = (R, 0))) : Calls Try.prog 80 #[.int .i64 y] w (SunQ y w) := by
  have z2 : (ep == 25) = false := beq_eq_false_iff_ne.2 (by omega)
  have z3 : (ep == 24) = false := beq_eq_false_iff_ne.2 (by omega)
  have HS := Lib.hid hS; clear hS
  go_enter Try.func80, Try.ntmps80
  go_wp2_with fail
  refine (dayOfR_any y 3 1 _ (by omega) (by omega) (by decide) (by decide) (by decide) (by decide)).mono ?_
  rintro en w1 ⟨rfl, hb1⟩
  rw [Hr.out]
  go_wp2_with fail
  skip
  go_loop [11] (fun n => ∃ m : Int, S ≤ m ∧ m ≤ R ∧ n = .int .i64 m) (fun n => (R - intOf n).toNat)
  case atStart => exact ⟨S, by omega, hSR, by have := HS.out; first | rfl | (simp; omega)⟩
  case round =>
    obtain ⟨m, m1, m2, rfl⟩ := hrel
    have mb : 0 ≤ m ∧ m ≤ 5000000 := by have := HS.out; omega
    by_cases hm : m = R
    · subst hm
      go_wp2_with fail
      refine (dayOfWeek_any m _ (by have := HS.out; omega) (by have := HS.out; omega)).mono ?_
      rintro en w2 ⟨rfl, he2⟩
      subst he2
      rw [W2.out]
      go_wp2
      go_ret2
      exact ⟨by rw [Hs.out]; rfl, hb1⟩
    · have hw := W1.out m m1 (by omega)
      have hm2 : m + 1 ≤ R := by omega
      clear hm
      go_wp2_with fail
      refine (dayOfWeek_any m _ (by have := HS.out; omega) (by have := HS.out; omega)).mono ?_
      rintro en w2 ⟨rfl, he2⟩
      subst he2
      go_wp2
      go_round
      case rel => exact ⟨m + 1, by omega, hm2, by first | rfl | go_num⟩
      case measure => simp [intOf]; omega
set_option maxHeartbeats 1000000 in
theorem eof_a1 (y a b c d r0 S R : Int) (w : World) (h1 : 1583 ≤ y) (h2 : y ≤ 9999) (q0 : 0 ≤ a ∧ a ≤ 18) (q1 : 15 ≤ b ∧ b ≤ 99) (x1 : y % 19 = a) (x2 : y / 100 = b) (x3 : 3 * (b + 1) / 4 = c) (x4 : (8 * (b + 1) + 5) / 25 = d) (q2 : 10 ≤ c ∧ c ≤ 80) (q3 : 5 ≤ d ∧ d ≤ 40)
    (x5 : (11 * (a + 1) + 20 + (d - 5) - (c - 12)).tmod 30 = -6) (Hr : RowKit.Hid (raw y 3 1 = r0)) (hr : 1 ≤ r0 ∧ r0 ≤ 4000000) (hS : r0 + (49) = S) (hSR : S ≤ R) (hR : R ≤ S + 6) (W1 : RowKit.Hid (∀ m : Int, S ≤ m → m < R → (wd m != 7) = true)) (W2 : RowKit.Hid (wd R = 7)) (Hs : RowKit.Hid (sunF y = (R, 0))) : Calls Try.prog 80 #[.int .i64 y] w (SunQ y w) := by
  have HS := Lib.hid hS; clear hS
  go_enter Try.func80, Try.ntmps80
  go_wp2_with fail
  refine (dayOfR_any y 3 1 _ (by omega) (by omega) (by decide) (by decide) (by decide) (by decide)).mono ?_
  rintro en w1 ⟨rfl, hb1⟩
  rw [Hr.out]
  go_wp2_with fail
  skip
  go_loop [11] (fun n => ∃ m : Int, S ≤ m ∧ m ≤ R ∧ n = .int .i64 m) (fun n => (R - intOf n).toNat)
  case atStart => exact ⟨S, by omega, hSR, by have := HS.out; first | rfl | (simp; omega)⟩
  case round =>
    obtain ⟨m, m1, m2, rfl⟩ := hrel
    have mb : 0 ≤ m ∧ m ≤ 5000000 := by have := HS.out; omega
    by_cases hm : m = R
    · subst hm
      go_wp2_with fail
      refine (dayOfWeek_any m _ (by have := HS.out; omega) (by have := HS.out; omega)).mono ?_
      rintro en w2 ⟨rfl, he2⟩
      subst he2
      rw [W2.out]
      go_wp2
      go_ret2
      exact ⟨by rw [Hs.out]; rfl, hb1⟩
    · have hw := W1.out m m1 (by omega)
      have hm2 : m + 1 ≤ R := by omega
      clear hm
      go_wp2_with fail
      refine (dayOfWeek_any m _ (by have := HS.out; omega) (by have := HS.out; omega)).mono ?_
      rintro en w2 ⟨rfl, he2⟩
      subst he2
      go_wp2
      go_round
      case rel => exact ⟨m + 1, by omega, hm2, by first | rfl | go_num⟩
      case measure => simp [intOf]; omega
set_option maxHeartbeats 1000000 in
theorem eof_b1 (y a b c d r0 S R : Int) (w : World) (h1 : 1583 ≤ y) (h2 : y ≤ 9999) (q0 : 0 ≤ a ∧ a ≤ 18) (q1 : 15 ≤ b ∧ b ≤ 99) (hc : 11 ≤ a) (x1 : y % 19 = a) (x2 : y / 100 = b) (x3 : 3 * (b + 1) / 4 = c) (x4 : (8 * (b + 1) + 5) / 25 = d) (q2 : 10 ≤ c ∧ c ≤ 80) (q3 : 5 ≤ d ∧ d ≤ 40)
    (x5 : (11 * (a + 1) + 20 + (d - 5) - (c - 12)).tmod 30 = -5) (Hr : RowKit.Hid (raw y 3 1 = r0)) (hr : 1 ≤ r0 ∧ r0 ≤ 4000000) (hS : r0 + (48) = S) (hSR : S ≤ R) (hR : R ≤ S + 6) (W1 : RowKit.Hid (∀ m : Int, S ≤ m → m < R → (wd m != 7) = true)) (W2 : RowKit.Hid (wd R = 7)) (Hs : RowKit.Hid (sunF y = (R, 0))) : Calls Try.prog 80 #[.int .i64 y] w (SunQ y w) := by
  have HS := Lib.hid hS; clear hS
  go_enter Try.func80, Try.ntmps80
  go_wp2_with fail
  refine (dayOfR_any y 3 1 _ (by omega) (by omega) (by decide) (by decide) (by decide) (by decide)).mono ?_
  rintro en w1 ⟨rfl, hb1⟩
  rw [Hr.out]
  go_wp2_with fail
  skip
  go_loop [11] (fun n => ∃ m : Int, S ≤ m ∧ m ≤ R ∧ n = .int .i64 m) (fun n => (R - intOf n).toNat)
  case atStart => exact ⟨S, by omega, hSR, by have := HS.out; first | rfl | (simp; omega)⟩
  case round =>
    obtain ⟨m, m1, m2, rfl⟩ := hrel
    have mb : 0 ≤ m ∧ m ≤ 5000000 := by have := HS.out; omega
    by_cases hm : m = R
    · subst hm
      go_wp2_with fail
      refine (dayOfWeek_any m _ (by have := HS.out; omega) (by have := HS.out; omega)).mono ?_
      rintro en w2 ⟨rfl, he2⟩
      subst he2
      rw [W2.out]
      go_wp2
      go_ret2
      exact ⟨by rw [Hs.out]; rfl, hb1⟩
    · have hw := W1.out m m1 (by omega)
      have hm2 : m + 1 ≤ R := by omega
      clear hm
      go_wp2_with fail
      refine (dayOfWeek_any m _ (by have := HS.out; omega) (by have := HS.out; omega)).mono ?_
      rintro en w2 ⟨rfl, he2⟩
      subst he2
      go_wp2
      go_round
      case rel => exact ⟨m + 1, by omega, hm2, by first | rfl | go_num⟩
      case measure => simp [intOf]; omega
set_option maxHeartbeats 1000000 in
theorem eof_c1 (y a b c d r0 S R : Int) (w : World) (h1 : 1583 ≤ y) (h2 : y ≤ 9999) (q0 : 0 ≤ a ∧ a ≤ 18) (q1 : 15 ≤ b ∧ b ≤ 99) (hc : a ≤ 10) (x1 : y % 19 = a) (x2 : y / 100 = b) (x3 : 3 * (b + 1) / 4 = c) (x4 : (8 * (b + 1) + 5) / 25 = d) (q2 : 10 ≤ c ∧ c ≤ 80) (q3 : 5 ≤ d ∧ d ≤ 40)
    (x5 : (11 * (a + 1) + 20 + (d - 5) - (c - 12)).tmod 30 = -5) (Hr : RowKit.Hid (raw y 3 1 = r0)) (hr : 1 ≤ r0 ∧ r0 ≤ 4000000) (hS : r0 + (49) = S) (hSR : S ≤ R) (hR : R ≤ S + 6) (W1 : RowKit.Hid (∀ m : Int, S ≤ m → m < R → (wd m != 7) = true)) (W2 : RowKit.Hid (wd R = 7)) (Hs : RowKit.Hid (sunF y = (R, 0))) : Calls Try.prog 80 #[.int .i64 y] w (SunQ y w) := by
  have HS := Lib.hid hS; clear hS
  go_enter Try.func80, Try.ntmps80
  go_wp2_with fail
  refine (dayOfR_any y 3 1 _ (by omega) (by omega) (by decide) (by decide) (by decide) (by decide)).mono ?_
  rintro en w1 ⟨rfl, hb1⟩
  rw [Hr.out]
  go_wp2_with fail
  skip
  go_loop [11] (fun n => ∃ m : Int, S ≤ m ∧ m ≤ R ∧ n = .int .i64 m) (fun n => (R - intOf n).toNat)
  case atStart => exact ⟨S, by omega, hSR, by have := HS.out; first | rfl | (simp; omega)⟩
  case round =>
    obtain ⟨m, m1, m2, rfl⟩ := hrel
    have mb : 0 ≤ m ∧ m ≤ 5000000 := by have := HS.out; omega
    by_cases hm : m = R
    · subst hm
      go_wp2_with fail
      refine (dayOfWeek_any m _ (by have := HS.out; omega) (by have := HS.out; omega)).mono ?_
      rintro en w2 ⟨rfl, he2⟩
      subst he2
      rw [W2.out]
      go_wp2
      go_ret2
      exact ⟨by rw [Hs.out]; rfl, hb1⟩
    · have hw := W1.out m m1 (by omega)
      have hm2 : m + 1 ≤ R := by omega
      clear hm
      go_wp2_with fail
      refine (dayOfWeek_any m _ (by have := HS.out; omega) (by have := HS.out; omega)).mono ?_
      rintro en w2 ⟨rfl, he2⟩
      subst he2
      go_wp2
      go_round
      case rel => exact ⟨m + 1, by omega, hm2, by first | rfl | go_num⟩
      case measure => simp [intOf]; omega
set_option maxHeartbeats 1000000 in
theorem eof_d1 (y a b c d r0 S R : Int) (ep : Int) (w : World) (h1 : 1583 ≤ y) (h2 : y ≤ 9999) (q0 : 0 ≤ a ∧ a ≤ 18) (q1 : 15 ≤ b ∧ b ≤ 99) (he : 1 ≤ ep ∧ ep ≤ 29) (hc : ep ≤ 23) (x1 : y % 19 = a) (x2 : y / 100 = b) (x3 : 3 * (b + 1) / 4 = c) (x4 : (8 * (b + 1) + 5) / 25 = d) (q2 : 10 ≤ c ∧ c ≤ 80) (q3 : 5 ≤ d ∧ d ≤ 40)
    (x5 : (11 * (a + 1) + 20 + (d - 5) - (c - 12)).tmod 30 = ep - 30) (Hr : RowKit.Hid (raw y 3 1 = r0)) (hr : 1 ≤ r0 ∧ r0 ≤ 4000000) (hS : r0 + (44 - ep) = S) (hSR : S ≤ R) (hR : R ≤ S + 6) (W1 : RowKit.Hid (∀ m : Int, S ≤ m → m < R → (wd m != 7) = true)) (W2 : RowKit.Hid (wd R = 7)) (Hs : RowKit.Hid (sunF y = (R, 0))) : Calls Try.prog 80 #[.int .i64 y] w (SunQ y w) := by
  have z1 : ep - 30 + 30 = ep := by omega
  have z2 : (ep == 25) = false := beq_eq_false_iff_ne.2 (by omega)
  have z3 : (ep == 24) = false := beq_eq_false_iff_ne.2 (by omega)
  have HS := Lib.hid hS; clear hS
  go_enter Try.func80, Try.ntmps80
  go_wp2_with fail
  refine (dayOfR_any y 3 1 _ (by omega) (by omega) (by decide) (by decide) (by decide) (by decide)).mono ?_
  rintro en w1 ⟨rfl, hb1⟩
  rw [Hr.out]
  go_wp2_with fail
  skip
  go_loop [11] (fun n => ∃ m : Int, S ≤ m ∧ m ≤ R ∧ n = .int .i64 m) (fun n => (R - intOf n).toNat)
  case atStart => exact ⟨S, by omega, hSR, by have := HS.out; first | rfl | (simp; omega)⟩
  case round =>
    obtain ⟨m, m1, m2, rfl⟩ := hrel
    have mb : 0 ≤ m ∧ m ≤ 5000000 := by have := HS.out; omega
    by_cases hm : m = R
    · subst hm
      go_wp2_with fail
      refine (dayOfWeek_any m _ (by have := HS.out; omega) (by have := HS.out; omega)).mono ?_
      rintro en w2 ⟨rfl, he2⟩
      subst he2
      rw [W2.out]
      go_wp2
      go_ret2
      exact ⟨by rw [Hs.out]; rfl, hb1⟩
    · have hw := W1.out m m1 (by omega)
      have hm2 : m + 1 ≤ R := by omega
      clear hm
      go_wp2_with fail
      refine (dayOfWeek_any m _ (by have := HS.out; omega) (by have := HS.out; omega)).mono ?_
      rintro en w2 ⟨rfl, he2⟩
      subst he2
      go_wp2
      go_round
      case rel => exact ⟨m + 1, by omega, hm2, by first | rfl | go_num⟩
      case measure => simp [intOf]; omega
set_option maxHeartbeats 1000000 in
theorem eof_e1 (y a b c d r0 S R : Int) (ep : Int) (w : World) (h1 : 1583 ≤ y) (h2 : y ≤ 9999) (q0 : 0 ≤ a ∧ a ≤ 18) (q1 : 15 ≤ b ∧ b ≤ 99) (he : 1 ≤ ep ∧ ep ≤ 29) (hc : 26 ≤ ep) (x1 : y % 19 = a) (x2 : y / 100 = b) (x3 : 3 * (b + 1) / 4 = c) (x4 : (8 * (b + 1) + 5) / 25 = d) (q2 : 10 ≤ c ∧ c ≤ 80) (q3 : 5 ≤ d ∧ d ≤ 40)
    (x5 : (11 * (a + 1) + 20 + (d - 5) - (c - 12)).tmod 30 = ep - 30) (Hr : RowKit.Hid (raw y 3 1 = r0)) (hr : 1 ≤ r0 ∧ r0 ≤ 4000000) (hS : r0 + (74 - ep) = S) (hSR : S ≤ R) (hR : R ≤ S + 6) (W1 : RowKit.Hid (∀ m : Int, S ≤ m → m < R → (wd m != 7) = true)) (W2 : RowKit.Hid (wd R = 7)) (Hs : RowKit.Hid (sunF y = (R, 0))) : Calls Try.prog 80 #[.int .i64 y] w (SunQ y w) := by
  have z1 : ep - 30 + 30 = ep := by omega
  have z2 : (ep == 25) = false := beq_eq_false_iff_ne.2 (by omega)
  have z3 : (ep == 24) = false := beq_eq_false_iff_ne.2 (by omega)
  have HS := Lib.hid hS; clear hS
  go_enter Try.func80, Try.ntmps80
  go_wp2_with fail
  refine (dayOfR_any y 3 1 _ (by omega) (by omega) (by decide) (by decide) (by decide) (by decide)).mono ?_
  rintro en w1 ⟨rfl, hb1⟩
  rw [Hr.out]
  go_wp2_with fail
  skip
  go_loop [11] (fun n => ∃ m : Int, S ≤ m ∧ m ≤ R ∧ n = .int .i64 m) (fun n => (R - intOf n).toNat)
  case atStart => exact ⟨S, by omega, hSR, by have := HS.out; first | rfl | (simp; omega)⟩
  case round =>
    obtain ⟨m, m1, m2, rfl⟩ := hrel
    have mb : 0 ≤ m ∧ m ≤ 5000000 := by have := HS.out; omega
    by_cases hm : m = R
    · subst hm
      go_wp2_with fail
      refine (dayOfWeek_any m _ (by have := HS.out; omega) (by have := HS.out; omega)).mono ?_
      rintro en w2 ⟨rfl, he2⟩
      subst he2
      rw [W2.out]
      go_wp2
      go_ret2
      exact ⟨by rw [Hs.out]; rfl, hb1⟩
    · have hw := W1.out m m1 (by omega)
      have hm2 : m + 1 ≤ R := by omega
      clear hm
      go_wp2_with fail
      refine (dayOfWeek_any m _ (by have := HS.out; omega) (by have := HS.out; omega)).mono ?_
      rintro en w2 ⟨rfl, he2⟩
      subst he2
      go_wp2
      go_round
      case rel => exact ⟨m + 1, by omega, hm2, by first | rfl | go_num⟩
      case measure => simp [intOf]; omega
end Dt
end Go.Proofs.Ytjicpflgkhdppaa
