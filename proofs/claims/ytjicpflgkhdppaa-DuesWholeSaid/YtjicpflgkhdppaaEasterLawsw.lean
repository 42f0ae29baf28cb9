/- The document's Easter; what must be in any case. -/
import Derived.Test.YtjicpflgkhdppaaEasterOfw
import Derived.Test.YtjicpflgkhdppaaEasterWalks2w
set_option linter.unusedSimpArgs false
set_option linter.unusedVariables false
namespace Go.Proofs.Ytjicpflgkhdppaa
open Go.RowKit
namespace Dt
theorem sundays (S : Int) : (∀ m : Int, S ≤ m → m < S + (7 - wd S) → (wd m != 7) = true) ∧ wd (S + (7 - wd S)) = 7 ∧ S ≤ S + (7 - wd S) ∧ S + (7 - wd S) ≤ S + 6 := by
  have := wd_bd S
  refine ⟨fun m h1 h2 => ?_, ?_, by omega, by omega⟩
  · have : wd m ≠ 7 := by unfold wd at *; omega
    simp [this]
  · unfold wd; omega
theorem tmod30 (T : Int) : T.tmod 30 = if 0 ≤ T ∨ (30 : Int) ∣ T then T % 30 else T % 30 - 30 := by
  rw [Int.tmod_eq_emod]
  split <;> simp
theorem easterOf_any (y : Int) (w : World) : Calls Try.prog 80 #[.int .i64 y] w (SunQ y w) := by
  by_cases h : 1583 ≤ y ∧ y ≤ 9999
  · obtain ⟨h1, h2⟩ := h
    have hs : sunF y = (easterR y, 0) := by unfold sunF; rw [if_pos ⟨h1, h2⟩, (easter_ok y h1 h2).1]
    obtain ⟨_, _, v3, _⟩ := len_vals y
    have hr := raw_bd (y := y) (m := 3) (d := 1) ⟨by omega, h2, by decide, by decide, by decide, by omega⟩
    obtain ⟨w1, w2, w3, w4⟩ := sundays (eMarch y + 1)
    have hR : easterR y = eMarch y + 1 + (7 - wd (eMarch y + 1)) := rfl
    rw [← hR] at w1 w2 w3 w4
    have hM : eMarch y = raw y 3 1 + eFull y - 1 := rfl
    have hF : eFull y = if 44 - eEp y < 21 then 44 - eEp y + 30 else 44 - eEp y := rfl
    have hE : eEp y = if (eEp0 y = 25 ∧ 11 < y % 19 + 1) ∨ eEp0 y = 24 then eEp0 y + 1 else eEp0 y := rfl
    have hE0 : eEp0 y = (11 * (y % 19 + 1) + 20 + ((8 * (y / 100 + 1) + 5) / 25 - 5) - (3 * (y / 100 + 1) / 4 - 12)) % 30 := rfl
    obtain ⟨a, ha⟩ : ∃ a, y % 19 = a := ⟨_, rfl⟩
    obtain ⟨b, hb⟩ : ∃ b, y / 100 = b := ⟨_, rfl⟩
    have qa : 0 ≤ a ∧ a ≤ 18 := by omega
    have qb : 15 ≤ b ∧ b ≤ 99 := by omega
    rw [ha] at hE
    rw [ha, hb] at hE0
    obtain ⟨c, hc⟩ : ∃ c, 3 * (b + 1) / 4 = c := ⟨_, rfl⟩
    obtain ⟨d, hd⟩ : ∃ d, (8 * (b + 1) + 5) / 25 = d := ⟨_, rfl⟩
    have qc : 10 ≤ c ∧ c ≤ 80 := by omega
    have qd : 5 ≤ d ∧ d ≤ 40 := by omega
    rw [hc, hd] at hE0
    have ht := tmod30 (11 * (a + 1) + 20 + (d - 5) - (c - 12))
    rw [← hE0] at ht
    obtain ⟨ep, hep⟩ : ∃ ep, eEp0 y = ep := ⟨_, rfl⟩
    rw [hep] at ht hE hE0
    obtain ⟨r0, hr0⟩ : ∃ r0, raw y 3 1 = r0 := ⟨_, rfl⟩
    rw [hr0] at hr hM
    have eb : 0 ≤ ep ∧ ep ≤ 29 := by omega
    have hS : ∀ fu, eFull y = fu → r0 + fu = eMarch y + 1 := fun fu h => by omega
    have hrb : 1 ≤ r0 ∧ r0 ≤ 4000000 := by omega
    have hcond : (0 ≤ 11 * (a + 1) + 20 + (d - 5) - (c - 12) ∨ (30 : Int) ∣ 11 * (a + 1) + 20 + (d - 5) - (c - 12)) ∨ ep ≠ 0 := by
      by_cases h0 : ep = 0
      · exact .inl (.inr (Int.dvd_of_emod_eq_zero (by omega)))
      · exact .inr h0
    by_cases hs0 : 0 ≤ 11 * (a + 1) + 20 + (d - 5) - (c - 12) ∨ (30 : Int) ∣ 11 * (a + 1) + 20 + (d - 5) - (c - 12)
    · rw [if_pos hs0] at ht
      rcases (show ep = 24 ∨ (ep = 25 ∧ 11 ≤ a) ∨ (ep = 25 ∧ a ≤ 10) ∨ ep ≤ 23 ∨ 26 ≤ ep by omega) with rfl | ⟨rfl, g⟩ | ⟨rfl, g⟩ | g | g
      · rw [if_pos (.inr rfl)] at hE
        rw [hE, if_pos (by omega)] at hF
        exact eof_a0 y a b c d r0 _ _ w h1 h2 qa qb ha hb hc hd qc qd ht (Lib.hid hr0) hrb (hS _ hF) w3 w4 (Lib.hid w1) (Lib.hid w2) (Lib.hid hs)
      · rw [if_pos (.inl ⟨rfl, by omega⟩)] at hE
        rw [hE, if_pos (by omega)] at hF
        exact eof_b0 y a b c d r0 _ _ w h1 h2 qa qb g ha hb hc hd qc qd ht (Lib.hid hr0) hrb (hS _ hF) w3 w4 (Lib.hid w1) (Lib.hid w2) (Lib.hid hs)
      · rw [if_neg (by omega)] at hE
        rw [hE, if_pos (by omega)] at hF
        exact eof_c0 y a b c d r0 _ _ w h1 h2 qa qb g ha hb hc hd qc qd ht (Lib.hid hr0) hrb (hS _ hF) w3 w4 (Lib.hid w1) (Lib.hid w2) (Lib.hid hs)
      · rw [if_neg (by omega)] at hE
        rw [hE, if_neg (by omega)] at hF
        exact eof_d0 y a b c d r0 _ _ ep w h1 h2 qa qb eb g ha hb hc hd qc qd ht (Lib.hid hr0) hrb (hS _ hF) w3 w4 (Lib.hid w1) (Lib.hid w2) (Lib.hid hs)
      · rw [if_neg (by omega)] at hE
        rw [hE, if_pos (by omega)] at hF
        exact eof_e0 y a b c d r0 _ _ ep w h1 h2 qa qb eb g ha hb hc hd qc qd ht (Lib.hid hr0) hrb (hS _ (by omega)) w3 w4 (Lib.hid w1) (Lib.hid w2) (Lib.hid hs)
    · have hne : ep ≠ 0 := hcond.resolve_left hs0
      rw [if_neg hs0] at ht
      rcases (show ep = 24 ∨ (ep = 25 ∧ 11 ≤ a) ∨ (ep = 25 ∧ a ≤ 10) ∨ ep ≤ 23 ∨ 26 ≤ ep by omega) with rfl | ⟨rfl, g⟩ | ⟨rfl, g⟩ | g | g
      · rw [if_pos (.inr rfl)] at hE
        rw [hE, if_pos (by omega)] at hF
        exact eof_a1 y a b c d r0 _ _ w h1 h2 qa qb ha hb hc hd qc qd ht (Lib.hid hr0) hrb (hS _ hF) w3 w4 (Lib.hid w1) (Lib.hid w2) (Lib.hid hs)
      · rw [if_pos (.inl ⟨rfl, by omega⟩)] at hE
        rw [hE, if_pos (by omega)] at hF
        exact eof_b1 y a b c d r0 _ _ w h1 h2 qa qb g ha hb hc hd qc qd ht (Lib.hid hr0) hrb (hS _ hF) w3 w4 (Lib.hid w1) (Lib.hid w2) (Lib.hid hs)
      · rw [if_neg (by omega)] at hE
        rw [hE, if_pos (by omega)] at hF
        exact eof_c1 y a b c d r0 _ _ w h1 h2 qa qb g ha hb hc hd qc qd ht (Lib.hid hr0) hrb (hS _ hF) w3 w4 (Lib.hid w1) (Lib.hid w2) (Lib.hid hs)
      · rw [if_neg (by omega)] at hE
        rw [hE, if_neg (by omega)] at hF
        exact eof_d1 y a b c d r0 _ _ ep w h1 h2 qa qb ⟨by omega, eb.2⟩ g ha hb hc hd qc qd ht (Lib.hid hr0) hrb (hS _ hF) w3 w4 (Lib.hid w1) (Lib.hid w2) (Lib.hid hs)
      · rw [if_neg (by omega)] at hE
        rw [hE, if_pos (by omega)] at hF
        exact eof_e1 y a b c d r0 _ _ ep w h1 h2 qa qb ⟨by omega, eb.2⟩ g ha hb hc hd qc qd ht (Lib.hid hr0) hrb (hS _ (by omega)) w3 w4 (Lib.hid w1) (Lib.hid w2) (Lib.hid hs)
  · have hs : sunF y = (0, 3) := by unfold sunF; rw [if_neg h]
    have Hs := Lib.hid hs; clear hs
    rcases (show y < 1583 ∨ (1583 ≤ y ∧ 9999 < y) by omega) with g | ⟨g, g'⟩
    all_goals
      clear h
      go_enter Try.func80, Try.ntmps80
      go_wp2
      go_ret2
      exact ⟨by rw [Hs.out]; rfl, br _⟩
end Dt
end Go.Proofs.Ytjicpflgkhdppaa
