/- Two neighbours changed about are seen: the law function walked. -/
import Derived.Test.YtcffcknnhjjdpaaDammLaws3
import Derived.Deep.QuietTactic
import Derived.BigQuiet
namespace Go.Proofs.Ytcffcknnhjjdpaa
open Go.RowKit
namespace Dm
theorem cut_two (s : ByteArray) (k : Nat) (h : k + 1 < s.size) : s.data.toList = s.data.toList.take k ++ [s[k]] ++ [s[k + 1]] ++ s.data.toList.drop (k + 2) := by
  conv => lhs; rw [← List.take_append_drop (k + 2) s.data.toList]
  rw [take_snocB s (k + 1) h, take_snocB s k (by omega)]
theorem cut_at (s : ByteArray) (k : Nat) (h : k < s.size) : s.extract k (k + 1) = ⟨#[s[k]]⟩ := by
  have : (s.extract k (k + 1)).data.toList = [s[k]] := by
    simp only [ByteArray.data_extract, Array.toList_extract, List.extract_eq_take_drop]
    rw [show k + 1 - k = 1 by omega, List.drop_eq_getElem_cons (by simpa using h)]
    simp; rfl
  cases e : s.extract k (k + 1) with
  | mk d => rw [e] at this; congr 1; exact Array.toList_inj.1 this
set_option maxHeartbeats 2000000 in
theorem swap_walk (s : ByteArray) (a : Int) (w : World) (hs : s.size ≤ maxLen) : Calls Try.prog 5 #[.string s, .int .i64 a] w (LT w) := by
  have hbd := led_bd s.data.toList
  by_cases hg : (led s.data.toList).2 = 0 ∧ (led s.data.toList).1 = 0 ∧ 0 ≤ a ∧ a < s.size - 1
  · obtain ⟨he, hz, h1, h2⟩ := hg
    obtain ⟨k, rfl⟩ := Int.eq_ofNat_of_zero_le h1
    have hk : k + 1 < s.size := by omega
    have hlen : s.size ≤ 24 := by have := (led_zero _ he).2.1; simpa using this
    have hi0 : isF s.data.toList = true := (isF_iff _).2 ⟨he, hz⟩
    have hcut := cut_two s k hk
    have hc1 := cut_at s k (by omega)
    have hc2 := cut_at s (k + 1) hk
    have he' := he; have hz' := hz
    rw [hcut] at he' hz'
    have hlaw := swap_law _ _ _ _ he' hz'
    have hbs : (((s[k]).toNat : Int) == ((s[k + 1]).toNat : Int)) = decide (s[k] = s[k + 1]) := by
      rw [Bool.eq_iff_iff, beq_iff_eq, decide_eq_true_iff]
      exact ⟨fun e => UInt8.toNat.inj (by omega), fun e => by rw [e]⟩
    have s1 : ∀ c : UInt8, (⟨#[c]⟩ : ByteArray).size = 1 := fun _ => rfl
    have hadd1 := fun w => run_string_add_sum (P := Try.prog) w (s.extract 0 k) (s.extract (k + 1) (k + 2)) (by simp; omega)
    have hadd2 := fun w => run_string_add_sum (P := Try.prog) w (s.extract 0 k ++ s.extract (k + 1) (k + 2)) (s.extract k (k + 1)) (by simp [ByteArray.size_append]; omega)
    have hadd3 := fun w => run_string_add_sum (P := Try.prog) w (s.extract 0 k ++ s.extract (k + 1) (k + 2) ++ s.extract k (k + 1)) (s.extract (k + 2) s.size) (by simp [ByteArray.size_append]; omega)
    have happ : (s.extract 0 k ++ s.extract (k + 1) (k + 2) ++ s.extract k (k + 1) ++ s.extract (k + 2) s.size : ByteArray).data.toList = s.data.toList.take k ++ [s[k + 1]] ++ [s[k]] ++ s.data.toList.drop (k + 2) := by
      rw [hc1, show k + 2 = k + 1 + 1 by omega, hc2]
      simp
      exact List.take_of_length_le (by simp)
    have hta : (s.extract 0 k ++ s.extract (k + 1) (k + 2) ++ s.extract k (k + 1) ++ s.extract (k + 2) s.size : ByteArray).size ≤ maxLen := by
      unfold maxLen; simp [ByteArray.size_append]; omega
    have hi : isF (s.extract 0 k ++ s.extract (k + 1) (k + 2) ++ s.extract k (k + 1) ++ s.extract (k + 2) s.size : ByteArray).data.toList = decide (s[k] = s[k + 1]) := by
      rw [happ]; unfold isF; rw [decide_eq_true hlaw.1, Bool.true_and, Bool.eq_iff_iff, decide_eq_true_iff, hlaw.2, decide_eq_true_iff]
    have h20 : (led (s.extract 0 k ++ s.extract (k + 1) (k + 2) ++ s.extract k (k + 1) ++ s.extract (k + 2) s.size : ByteArray).data.toList).2 = 0 := by rw [happ]; exact hlaw.1
    by_cases hcs : s[k] = s[k + 1]
    all_goals
      first | rw [decide_eq_true hcs] at hi hbs | rw [decide_eq_false hcs] at hi hbs
      have He := Lib.hid he; have Hi := Lib.hid hi; have H20 := Lib.hid h20; have Hi0 := Lib.hid hi0; have Hcs := Lib.hid hcs
      clear he hz hbd hlaw hi h20 happ hcut he' hz' hi0 hcs hbs hc1 hc2 s1
      go_enter Try.func5, Try.ntmps5
      go_wp2_with fail
      refine (is_any _ _ hs).mono ?_
      rintro en w1 ⟨rfl, hb1⟩
      rw [Hi0.out, He.out]
      go_wp2_with fail
      refine (begun_any _).mono ?_
      rintro en w2 ⟨rfl, hb2⟩
      go_wp2_with fail
      have g1 : IntKind.i64.wrap ((k : Int) + 1) = (k : Int) + 1 := IntWalk.i64_in _ (by omega)
      have g2 : 0 ≤ (k : Int) + 1 := by omega
      have g3 : ((k : Int) + 1).toNat = k + 1 := by omega
      have g4 : (k : Int) + 1 ≤ s.size := by omega
      have g5 : (k : Int) ≤ s.size := by omega
      have g8 : IntKind.i64.wrap ((k : Int) + 2) = (k : Int) + 2 := IntWalk.i64_in _ (by omega)
      have g9 : 0 ≤ (k : Int) + 2 := by omega
      have g10 : ((k : Int) + 2).toNat = k + 2 := by omega
      have g11 : (k : Int) + 2 ≤ s.size := by omega
      have g12 : (k : Int) ≤ (k : Int) + 1 := by omega
      have g13 : (k : Int) + 1 ≤ (k : Int) + 2 := by omega
      go_region_with (go_at_call 10; refine (is_any _ _ hta).mono ?_; rintro en w4 ⟨rfl, hb4⟩; rw [Hi.out, H20.out])
      clear g8 g9 g10 g11 g12 g13
      have g14 : (k : Int) < s.size := by omega
      have g15 : (k : Int) + 1 < s.size := by omega
      go_wp2
      go_quiet (fail)
      go_wp2
      go_ret
      refine ⟨?_, bn (bd (bt hb1 hb2) hb4) _⟩
      have hcs := Hcs.out
      first | (simp [hcs]; done) | (simp; intro e; exact hcs (UInt8.toNat.inj (by omega)))
  · by_cases hi : (led s.data.toList).2 = 0 ∧ (led s.data.toList).1 = 0
    · have hi0 : isF s.data.toList = true := (isF_iff _).2 hi
      rcases (show a < 0 ∨ (0 ≤ a ∧ (s.size : Int) - 1 ≤ a) by omega) with h1 | ⟨g1, h1⟩
      all_goals
        have Hi := Lib.hid hi; have Hi0 := Lib.hid hi0
        clear hg hi hi0 hbd
        unfold maxLen at hs
        go_enter Try.func5, Try.ntmps5
        go_wp2_with fail
        refine (is_any _ _ hs).mono ?_
        rintro en w1 ⟨rfl, hb1⟩
        rw [Hi0.out, Hi.out.1]
        go_wp2_with fail
        refine (begun_any _).mono ?_
        rintro en w2 ⟨rfl, hb2⟩
        go_wp2
        go_ret
        exact ⟨rfl, bt hb1 hb2⟩
    · have hi0 : isF s.data.toList = false := by rw [Bool.eq_false_iff]; exact fun h => hi ((isF_iff _).1 h)
      obtain ⟨q, hq⟩ : ∃ q, q = (led s.data.toList).2 := ⟨_, rfl⟩
      have Hq := Lib.hid hq; have Hi0 := Lib.hid hi0
      clear hg hi hi0 hbd hq
      by_cases hq0 : q = 0
      all_goals
        first | have hq1 : (q != 0) = false := by simp [hq0] | have hq1 : (q != 0) = true := by simp [hq0]
        clear hq0
        go_enter Try.func5, Try.ntmps5
        go_wp2_with fail
        refine (is_any _ _ hs).mono ?_
        rintro en w1 ⟨rfl, hb1⟩
        rw [Hi0.out, ← Hq.out]
        go_wp2_with fail
        refine (begun_any _).mono ?_
        rintro en w2 ⟨rfl, hb2⟩
        go_wp2
        go_ret
        exact ⟨rfl, bt hb1 hb2⟩
end Dm
end Go.Proofs.Ytcffcknnhjjdpaa
