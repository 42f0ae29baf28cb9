/- What is shared out: even parts. -/
import Derived.Test.YtjicpflgkhdppaaSharePlain
import Derived.Test.YtjicpflgkhdppaaShareEl
set_option linter.unusedSimpArgs false
set_option linter.unusedVariables false
namespace Go.Proofs.Ytjicpflgkhdppaa
open Go.RowKit
namespace Sh
open Stb
set_option maxRecDepth 100000 in
set_option maxHeartbeats 2000000 in
theorem even_any (t m : Int) (w : World) : Calls Try.prog 54 #[.int .i64 t, .int .i64 m] w (PairZ (evenR t m) (evenE t m) w) := by
  by_cases c : evenE t m = 0
  · obtain ⟨h1, h2, h3, h4⟩ := evenE_ok c
    have hr : evenR t m = evenL t m m.toNat := by unfold evenR; rw [if_pos c]
    rw [hr, c]
    clear hr c
    obtain ⟨n, rfl⟩ : ∃ n : Nat, m = n := ⟨m.toNat, by omega⟩
    rw [Int.toNat_natCast]
    have n1 : ¬ t < 0 := by omega
    have n2 : ¬ 1099511627776 < t := by omega
    have n3 : ¬ (n : Int) < 1 := by omega
    have n4 : ¬ 32 < (n : Int) := by omega
    have HT0 : RowKit.Hid (leftE t n 0 = t) := Lib.hid (leftE_zero t n (by omega))
    have HB := Lib.hid (fun (k : Nat) (hk : (k : Int) ≤ n) => leftE_bd t n k hk (by omega) h1)
    have HP := Lib.hid (fun k => evenP_bd t n k (by omega) h1 h2)
    have HC := Lib.hid (fun (k : Nat) (hk : (k : Int) < n) => evenP_ceil t n k hk h1)
    have HL := Lib.hid (evenL_succ t n)
    have HS := Lib.hid (leftE_succ t n)
    have HBR := Lib.hid (br w)
    have hn32 : n ≤ 32 := by omega
    clear h1 h2 h3 h4
    go_enter Try.func54, Try.ntmps54
    go_wp2
    go_loopw [0, 6, 7] (fun s0 s6 s7 wr => ∃ k : Nat, k ≤ n ∧ s7 = .int .i64 ((n : Int) - k) ∧ s0 = .int .i64 (leftE t n k) ∧ ROwn elZ wr w.heap.size s6 (evenL t n k) ∧ Below w.heap.size w wr) (fun _ _ s7 _ => (intOf s7).toNat)
    case atStart => exact ⟨0, Nat.zero_le _, by simp, by rw [HT0.out], ROwn.nil _ _, HBR.out⟩
    case round =>
      obtain ⟨k, hk, rfl, rfl, hown, hbw⟩ := hrel
      have HOWN := Lib.hid hown; have HBW := Lib.hid hbw
      have HLN : RowKit.Hid ((evenL t n k).length = k) := Lib.hid (evenL_len t n k)
      clear hown hbw
      by_cases hlt : k < n
      · have hb := HB.out k (by omega)
        have hp := HP.out k
        have hcc := HC.out k (by omega)
        have HLS := Lib.hid (HL.out k); have HSS := Lib.hid (HS.out k)
        generalize leftE t n k = l at *
        obtain ⟨p, hpp⟩ : ∃ p, evenP t n k = p := ⟨_, rfl⟩
        rw [hpp] at hp hcc HLS HSS
        clear hpp
        obtain ⟨d, hd⟩ : ∃ d : Int, (n : Int) - (k : Int) = d := ⟨_, rfl⟩
        rw [hd] at hcc ⊢
        have d1 : 0 < d := by omega
        have d2 : d ≤ 32 := by omega
        have HD : RowKit.Hid ((n : Int) - ((k + 1 : Nat) : Int) = d - 1) := Lib.hid (by omega)
        have d3 : l + d - 1 ≥ 0 := by omega
        have d4 : l ≤ 1099511627776 := by omega
        clear hd hb
        go_wp2_with (at_builtin; refine appE elZ rfl (.tmp 34) (.tmp 36) rfl w.heap.size _ (evenL t n k) rfl (HOWN.out.next ((br _).alloc (Nat.le_refl _) _)) _ [p] rfl (rd_lit elZ [p] _ _ _ _ rfl (by simp [maxLen])) (by rw [HLN.out]; show k + 1 ≤ _; unfold maxLen; omega) (by rw [HLN.out]; show (k + 1) * 8 ≤ _; omega) (by have := HBW.out.size; simp; omega) ?_; intro v9 w9 ho9 hb9 hf9; have HO9 := Lib.hid ho9; have HB9 := Lib.hid ((HBW.out.alloc HBW.out.size _).trans hb9); clear ho9 hb9 hf9)
        go_roundw
        case rel => exact ⟨k + 1, by omega, by rw [HD.out], by rw [HSS.out], by rw [HLS.out]; exact HO9.out, HB9.out⟩
        case measure => simp [intOf]; omega
      · have ek : k = n := by omega
        subst ek
        have hz : (k : Int) - (k : Int) = 0 := by omega
        rw [hz]
        clear HC HP HB HL HS HT0
        go_wp2
        go_ret2
        exact ⟨_, rfl, HOWN.out, HBW.out⟩
  · have hr : evenR t m = [] := by unfold evenR; rw [if_neg c]
    have he : evenE t m = 3 := by unfold evenE at c ⊢; split at c <;> simp_all
    rw [hr, he]
    have hw : t < 0 ∨ 1099511627776 < t ∨ m < 1 ∨ 32 < m := by
      unfold evenE at c; split at c
      · assumption
      · omega
    have HBR := Lib.hid (br w)
    have HOW : RowKit.Hid (ROwn elZ w w.heap.size (.slice none 0 0) []) := Lib.hid (ROwn.nil _ _)
    clear hr he c
    by_cases n1 : t < 0
    · go_enter Try.func54, Try.ntmps54
      go_wp2
      go_ret2
      exact ⟨_, rfl, HOW.out, HBR.out⟩
    · by_cases n2 : 1099511627776 < t
      · go_enter Try.func54, Try.ntmps54
        go_wp2
        go_ret2
        exact ⟨_, rfl, HOW.out, HBR.out⟩
      · by_cases n3 : m < 1
        · clear hw
          go_enter Try.func54, Try.ntmps54
          go_wp2
          go_ret2
          exact ⟨_, rfl, HOW.out, HBR.out⟩
        · have n4 : 32 < m := by omega
          clear hw
          go_enter Try.func54, Try.ntmps54
          go_wp2
          go_ret2
          exact ⟨_, rfl, HOW.out, HBR.out⟩
set_option maxRecDepth 100000 in
set_option maxHeartbeats 2000000 in
theorem parts_any (t m : Int) (w : World) : Calls Try.prog 56 #[.int .i64 t, .int .i64 m] w (PairZ (evenR t m) (evenE t m) w) := by
  by_cases c : evenE t m = 0
  · obtain ⟨h1, h2, h3, h4⟩ := evenE_ok c
    have hr : evenR t m = evenL t m m.toNat := by unfold evenR; rw [if_pos c]
    rw [hr, c]
    clear hr c
    obtain ⟨n, rfl⟩ : ∃ n : Nat, m = n := ⟨m.toNat, by omega⟩
    rw [Int.toNat_natCast]
    have n1 : ¬ t < 0 := by omega
    have n2 : ¬ 1099511627776 < t := by omega
    have n3 : ¬ (n : Int) < 1 := by omega
    have n4 : ¬ 32 < (n : Int) := by omega
    have HP := Lib.hid (fun k => evenP_bd t n k (by omega) h1 h2)
    have HL := Lib.hid (evenL_succ t n)
    have HPE : RowKit.Hid (∀ k : Nat, ((k : Int) < t % n → evenP t n k = t / n + 1) ∧ (¬ (k : Int) < t % n → evenP t n k = t / n)) := Lib.hid (fun k => ⟨fun h => by unfold evenP; rw [if_pos h], fun h => by unfold evenP; rw [if_neg h]; omega⟩)
    have HBR := Lib.hid (br w)
    have hn32 : n ≤ 32 := by omega
    have hq0 : 0 ≤ t / n := Int.ediv_nonneg h1 (by omega)
    have hq1 : t / n ≤ t := Int.ediv_le_self _ h1
    have hr0 := Int.emod_nonneg t (show (n : Int) ≠ 0 by omega)
    have hr1 := Int.emod_lt_of_pos t (show (0 : Int) < n by omega)
    obtain ⟨q, hq⟩ : ∃ q, t / (n : Int) = q := ⟨_, rfl⟩
    obtain ⟨r, hr⟩ : ∃ r, t % (n : Int) = r := ⟨_, rfl⟩
    rw [hq] at HPE hq0 hq1; rw [hr] at HPE hr0 hr1
    go_enter Try.func56, Try.ntmps56
    go_wp2
    go_loopw [6, 7] (fun s6 s7 wr => ∃ k : Nat, k ≤ n ∧ s7 = .int .i64 k ∧ ROwn elZ wr w.heap.size s6 (evenL t n k) ∧ Below w.heap.size w wr) (fun _ s7 _ => n - (intOf s7).toNat)
    case atStart => exact ⟨0, Nat.zero_le _, rfl, ROwn.nil _ _, HBR.out⟩
    case round =>
      obtain ⟨k, hk, rfl, hown, hbw⟩ := hrel
      have HOWN := Lib.hid hown; have HBW := Lib.hid hbw
      have HLN : RowKit.Hid ((evenL t n k).length = k) := Lib.hid (evenL_len t n k)
      clear hown hbw
      by_cases hlt : k < n
      · have i1 : (k : Int) < (n : Int) := by omega
        have HLS := Lib.hid (HL.out k)
        have HPK := Lib.hid (HPE.out k)
        by_cases hkr : (k : Int) < r
        · have e := HPK.out.1 (by omega)
          rw [e] at HLS
          clear e
          go_wp2_with (at_builtin; refine appE elZ rfl (.tmp 38) (.tmp 40) rfl w.heap.size _ (evenL t n k) rfl (HOWN.out.next ((br _).alloc (Nat.le_refl _) _)) _ [q + 1] rfl (rd_lit elZ [q + 1] _ _ _ _ rfl (by simp [maxLen])) (by rw [HLN.out]; show k + 1 ≤ _; unfold maxLen; omega) (by rw [HLN.out]; show (k + 1) * 8 ≤ _; omega) (by have := HBW.out.size; simp; omega) ?_; intro v9 w9 ho9 hb9 hf9; have HO9 := Lib.hid ho9; have HB9 := Lib.hid ((HBW.out.alloc HBW.out.size _).trans hb9); clear ho9 hb9 hf9)
          go_roundw
          case rel => exact ⟨k + 1, by omega, by go_num, by rw [HLS.out]; exact HO9.out, HB9.out⟩
          case measure => simp [intOf]; omega
        · have e := HPK.out.2 (by omega)
          rw [e] at HLS
          clear e
          go_wp2_with (at_builtin; refine appE elZ rfl (.tmp 38) (.tmp 40) rfl w.heap.size _ (evenL t n k) rfl (HOWN.out.next ((br _).alloc (Nat.le_refl _) _)) _ [q] rfl (rd_lit elZ [q] _ _ _ _ rfl (by simp [maxLen])) (by rw [HLN.out]; show k + 1 ≤ _; unfold maxLen; omega) (by rw [HLN.out]; show (k + 1) * 8 ≤ _; omega) (by have := HBW.out.size; simp; omega) ?_; intro v9 w9 ho9 hb9 hf9; have HO9 := Lib.hid ho9; have HB9 := Lib.hid ((HBW.out.alloc HBW.out.size _).trans hb9); clear ho9 hb9 hf9)
          go_roundw
          case rel => exact ⟨k + 1, by omega, by go_num, by rw [HLS.out]; exact HO9.out, HB9.out⟩
          case measure => simp [intOf]; omega
      · have ek : k = n := by omega
        subst ek
        clear HP HL HPE hq hr
        go_wp2
        go_ret2
        exact ⟨_, rfl, HOWN.out, HBW.out⟩
  · have hr : evenR t m = [] := by unfold evenR; rw [if_neg c]
    have he : evenE t m = 3 := by unfold evenE at c ⊢; split at c <;> simp_all
    rw [hr, he]
    have hw : t < 0 ∨ 1099511627776 < t ∨ m < 1 ∨ 32 < m := by
      unfold evenE at c; split at c
      · assumption
      · omega
    have HBR := Lib.hid (br w)
    have HOW : RowKit.Hid (ROwn elZ w w.heap.size (.slice none 0 0) []) := Lib.hid (ROwn.nil _ _)
    clear hr he c
    by_cases n1 : t < 0
    · go_enter Try.func56, Try.ntmps56
      go_wp2
      go_ret2
      exact ⟨_, rfl, HOW.out, HBR.out⟩
    · by_cases n2 : 1099511627776 < t
      · go_enter Try.func56, Try.ntmps56
        go_wp2
        go_ret2
        exact ⟨_, rfl, HOW.out, HBR.out⟩
      · by_cases n3 : m < 1
        · clear hw
          go_enter Try.func56, Try.ntmps56
          go_wp2
          go_ret2
          exact ⟨_, rfl, HOW.out, HBR.out⟩
        · have n4 : 32 < m := by omega
          clear hw
          go_enter Try.func56, Try.ntmps56
          go_wp2
          go_ret2
          exact ⟨_, rfl, HOW.out, HBR.out⟩
end Sh
end Go.Proofs.Ytjicpflgkhdppaa
