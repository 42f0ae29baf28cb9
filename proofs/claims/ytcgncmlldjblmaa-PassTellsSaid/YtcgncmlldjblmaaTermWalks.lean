/- Terms: months behind a day, a term's beginning. -/
import Derived.Test.YtcgncmlldjblmaaDateWalks3
import Derived.Test.YtcgncmlldjblmaaTermPlain
import Derived.Deep.RegionHeld3
import Derived.Deep.RegionWith
set_option linter.unusedSimpArgs false
set_option linter.unusedVariables false
namespace Go.Proofs.Ytcgncmlldjblmaa
open Go.RowKit
namespace Dt
def aT (u N : Int) : Value := .agg #[.int .i64 u, .int .i64 N]
def IntQ (r : Int) (w : World) (e : Ending) (w' : World) : Prop := e = .returned (.int .i64 r) ∧ Below w.heap.size w w'
def PairQ (r : Int × Int) (w : World) (e : Ending) (w' : World) : Prop := e = .returned (.tuple #[.int .i64 r.1, .int .i64 r.2]) ∧ Below w.heap.size w w'
theorem check_any (u N : Int) (w : World) : Calls Try.prog 56 #[aT u N] w (IntQ (tchk u N) w) := by
  unfold aT
  rcases (show u < 1 ∨ (1 ≤ u ∧ 4 < u) ∨ ((1 ≤ u ∧ u ≤ 4) ∧ N < 1) ∨ ((1 ≤ u ∧ u ≤ 4) ∧ 1 ≤ N ∧ 120 < N) ∨ ((1 ≤ u ∧ u ≤ 4) ∧ 1 ≤ N ∧ N ≤ 120) by omega) with h | ⟨h1, h⟩ | ⟨⟨h1, h2⟩, h⟩ | ⟨⟨h1, h2⟩, h3, h⟩ | ⟨⟨h1, h2⟩, h3, h⟩
  · have e : tchk u N = 7 := by unfold tchk; rw [if_pos (by omega)]
    have E := Lib.hid e; clear e
    go_enter Try.func56, Try.ntmps56
    go_wp2
    go_ret
    exact ⟨by rw [E.out]; rfl, (br _).alloc (Nat.le_refl _) _⟩
  · have e : tchk u N = 7 := by unfold tchk; rw [if_pos (by omega)]
    have E := Lib.hid e; clear e
    go_enter Try.func56, Try.ntmps56
    go_wp2
    go_ret
    exact ⟨by rw [E.out]; rfl, (br _).alloc (Nat.le_refl _) _⟩
  · have e : tchk u N = 3 := by unfold tchk; rw [if_neg (by omega), if_pos (by omega)]
    have E := Lib.hid e; clear e
    go_enter Try.func56, Try.ntmps56
    go_wp2
    go_ret
    exact ⟨by rw [E.out]; rfl, (br _).alloc (Nat.le_refl _) _⟩
  · have e : tchk u N = 3 := by unfold tchk; rw [if_neg (by omega), if_pos (by omega)]
    have E := Lib.hid e; clear e
    go_enter Try.func56, Try.ntmps56
    go_wp2
    go_ret
    exact ⟨by rw [E.out]; rfl, (br _).alloc (Nat.le_refl _) _⟩
  · have e : tchk u N = 0 := by unfold tchk; rw [if_neg (by omega), if_neg (by omega)]
    have E := Lib.hid e; clear e
    go_enter Try.func56, Try.ntmps56
    go_wp2
    go_ret
    exact ⟨by rw [E.out]; rfl, (br _).alloc (Nat.le_refl _) _⟩
set_option maxHeartbeats 4000000 in
theorem months_any (n many : Int) (w : World) (h1 : 1 ≤ n) (h2 : n ≤ 3652059) (p0 : 0 ≤ many) (p1 : many ≤ 2000000) : Calls Try.prog 66 #[.int .i64 n, .int .i64 many] w (IntQ (monthsF n many) w) := by
  obtain ⟨v, _⟩ := dateOf_spec n h1 h2
  obtain ⟨y1, y2, m1, m2, d1, d2⟩ := v
  have hx : aD (dateOf n) = .agg #[.int .i64 (dateOf n).1, .int .i64 (dateOf n).2.1, .int .i64 (dateOf n).2.2] := rfl
  have hm : mo n = 12 * (dateOf n).1 + ((dateOf n).2.1 - 1) := rfl
  have hd : dm n = (dateOf n).2.2 := rfl
  generalize (dateOf n).1 = y at *
  generalize (dateOf n).2.1 = m at *
  generalize (dateOf n).2.2 = d at *
  obtain ⟨q, hq⟩ : ∃ q, (m - 1 + many) / 12 = q := ⟨_, rfl⟩
  obtain ⟨r, hr⟩ : ∃ r, (m - 1 + many) % 12 = r := ⟨_, rfl⟩
  have q0 : 0 ≤ q := by omega
  have q1 : q ≤ 200000 := by omega
  have r0 : 0 ≤ r := by omega
  have r1 : r ≤ 11 := by omega
  have t1 : (mo n + many) / 12 = y + q := by omega
  have t2 : (mo n + many) % 12 = r := by omega
  have hdl : d ≤ 31 := by have := len_bd y m m1 m2; omega
  have HX := Lib.hid hx
  by_cases hy : 9999 < y + q
  · have hf : monthsF n many = 3652060 := by unfold monthsF dayAt; rw [if_pos (by omega)]
    have HF := Lib.hid hf
    clear hf hx hm hd t1 t2
    go_enter Try.func66, Try.ntmps66
    go_wp2_with fail
    refine (rawOf_any _ _ h1 h2).mono ?_
    rintro en w1 ⟨rfl, hb1⟩
    rw [HX.out]
    go_wp2
    go_ret
    exact ⟨by rw [HF.out]; rfl, by first | exact hb1 | exact hb1.alloc hb1.size _⟩
  · have hlen : len0 (y + q) (r + 1) = len (y + q) (r + 1) := by unfold len0; rw [if_pos (by omega)]
    have hlb := len_bd (y + q) (r + 1) (by omega) (by omega)
    rw [← hlen] at hlb
    generalize hLL : len0 (y + q) (r + 1) = LL at *
    have HL := Lib.hid hLL; clear hLL
    by_cases hl : d ≤ LL
    · have hf : monthsF n many = raw (y + q) (r + 1) d := by
        unfold monthsF dayAt S L raw; rw [if_neg (by omega), t1, t2, hd, ← hlen, Int.min_eq_left hl]
      have HF := Lib.hid hf
      clear hf hx hm hd t1 t2 hlen d2
      go_enter Try.func66, Try.ntmps66
      go_wp2_with fail
      refine (rawOf_any _ _ h1 h2).mono ?_
      rintro en w1 ⟨rfl, hb1⟩
      rw [HX.out]
      go_wp2_with fail
      go_region_with (go_at_call 75; refine (len0_any _ _ _).mono ?_; rintro en wl ⟨rfl, rfl⟩; rw [HL.out])
      all_goals
        go_wp2_with fail
        refine (raw_any _ _ _ _ (by omega) (by omega) (by omega) (by omega) (by omega) (by omega)).mono ?_
        rintro en w5 ⟨rfl, hb5⟩
        go_wp2
        go_ret
        exact ⟨by rw [HF.out]; rfl, by first | exact bd (hb1.alloc hb1.size _) hb5 | exact bt (hb1.alloc hb1.size _) hb5⟩
    · have hl' : LL < d := by omega
      have hf : monthsF n many = raw (y + q) (r + 1) (LL) := by
        unfold monthsF dayAt S L raw; rw [if_neg (by omega), t1, t2, hd, ← hlen, Int.min_eq_right (by omega)]
      have HF := Lib.hid hf
      clear hf hx hm hd t1 t2 hlen d2 hl
      go_enter Try.func66, Try.ntmps66
      go_wp2_with fail
      refine (rawOf_any _ _ h1 h2).mono ?_
      rintro en w1 ⟨rfl, hb1⟩
      rw [HX.out]
      go_wp2_with fail
      go_region_with (go_at_call 75; refine (len0_any _ _ _).mono ?_; rintro en wl ⟨rfl, rfl⟩; rw [HL.out])
      all_goals
        go_wp2_with fail
        refine (raw_any _ _ _ _ (by omega) (by omega) (by omega) (by omega) (by omega) (by omega)).mono ?_
        rintro en w5 ⟨rfl, hb5⟩
        go_wp2
        go_ret
        exact ⟨by rw [HF.out]; rfl, by first | exact bd (hb1.alloc hb1.size _) hb5 | exact bt (hb1.alloc hb1.size _) hb5⟩
end Dt
end Go.Proofs.Ytcgncmlldjblmaa
