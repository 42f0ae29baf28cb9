/- Behind its digit a number is right; a misread digit, and two neighbours changed about, are seen: the law functions walked. -/
import Derived.Test.YtcffcknnhjjdpaaDammLaws2
import Derived.Lib.Strings
import Derived.Deep.RegionWith
namespace Go.Proofs.Ytcffcknnhjjdpaa
open Go.RowKit
namespace Dm
theorem byteText_any (b : Int) (w : World) (h0 : 0 ≤ b) (h1 : b < 256) : Calls Try.prog 11 #[.int .u8 b] w fun e w' => e = .returned (.string ⟨#[UInt8.ofNat b.toNat]⟩) ∧ Below w.heap.size w w' := by
  have hv : ((UInt8.ofNat b.toNat).toNat : Int) = b := by simp; omega
  have hcv := run_convert_bytes_back (P := Try.prog) (w.alloc (.cells #[.int .u8 b] 5)) 40 9 5 ⟨w.heap.size, 0, none⟩ 1 [UInt8.ofNat b.toNat] Try.underlying40 Try.underlying5 Try.underlying9 (by
    intro j hj
    have : j = 0 := by simpa using hj
    subst this
    simp only [List.getElem_cons_zero, hv]
    simp [Addr.add])
  simp only [List.length_cons, List.length_nil, Nat.zero_add] at hcv
  clear hv
  go_enter Try.func11, Try.ntmps11
  go_wp2
  go_ret
  exact ⟨rfl, (br w).alloc (Nat.le_refl _) _⟩

theorem led_long (l : List UInt8) (h : 24 < l.length) : (led l).2 ≠ 0 := by
  intro h0; have := led_zero l h0; omega
set_option maxHeartbeats 2000000 in
theorem tail_walk (s : ByteArray) (b : Int) (w : World) (hs : s.size ≤ maxLen) (hbl : 0 ≤ b) (hbh : b < 256) : Calls Try.prog 3 #[.string s, .int .u8 b] w (LT w) := by
  have hbd := led_bd s.data.toList
  by_cases he : (led s.data.toList).2 = 0
  · have hlz := led_zero _ he
    have hlen : s.size ≤ 24 := by have := hlz.2.1; simpa using this
    have hd : digF s.data.toList = 48 + (led s.data.toList).1 := by unfold digF; rw [if_pos he]
    by_cases hg : s.size = 24 ∨ b < 48 ∨ 57 < b
    · have He := Lib.hid he; have Hd := Lib.hid hd
      clear he hd hbd hlz
      rcases (show s.size = 24 ∨ (s.size < 24 ∧ b < 48) ∨ (s.size < 24 ∧ 48 ≤ b ∧ 57 < b) by omega) with h1 | ⟨g1, h1⟩ | ⟨g1, g2, h1⟩
      all_goals
        clear hg
        go_enter Try.func3, Try.ntmps3
        go_wp2_with fail
        refine (digit_any _ _ hs).mono ?_
        rintro en w1 ⟨rfl, hb1⟩
        rw [Hd.out, He.out]
        go_wp2_with fail
        refine (begun_any _).mono ?_
        rintro en w2 ⟨rfl, hb2⟩
        go_wp2
        go_ret
        exact ⟨rfl, bt hb1 hb2⟩
    · obtain ⟨h1, h2, h3⟩ : s.size < 24 ∧ 48 ≤ b ∧ b ≤ 57 := by omega
      clear hg
      have hn24 : ((s.size : Int) == 24) = false := beq_eq_false_iff_ne.2 (by omega)
      obtain ⟨c, hc⟩ : ∃ c, c = UInt8.ofNat b.toNat := ⟨_, rfl⟩
      have hcn : (c.toNat : Int) = b := by rw [hc]; simp; omega
      have hlaw := tail_law s.data.toList c he (by simpa using h1) (by omega) (by omega)
      have happ : (s ++ ⟨#[c]⟩ : ByteArray).data.toList = s.data.toList ++ [c] := by simp
      have hadd := fun w => run_string_add_sum (P := Try.prog) w s ⟨#[c]⟩ (by have : (⟨#[c]⟩ : ByteArray).size = 1 := rfl; omega)
      have hta : (s ++ ⟨#[c]⟩ : ByteArray).size ≤ maxLen := by
        have : (s ++ ⟨#[c]⟩ : ByteArray).size = s.size + 1 := by simp [ByteArray.size_append]; rfl
        unfold maxLen; omega
      have hi : isF (s ++ ⟨#[c]⟩ : ByteArray).data.toList = (b == 48 + (led s.data.toList).1) := by
        rw [happ]; unfold isF; rw [decide_eq_true hlaw.1, Bool.true_and, Bool.eq_iff_iff, decide_eq_true_iff, hlaw.2, beq_iff_eq, hcn]
      have h20 : (led (s ++ ⟨#[c]⟩ : ByteArray).data.toList).2 = 0 := by rw [happ]; exact hlaw.1
      obtain ⟨q, hq⟩ : ∃ q, q = (led s.data.toList).1 := ⟨_, rfl⟩
      rw [← hq] at hd hi hbd
      have hq0 : 0 ≤ q := hbd.1
      have hq1 : q ≤ 9 := hbd.2.1
      have He := Lib.hid he; have Hd := Lib.hid hd; have Hc := Lib.hid hc; have Hi := Lib.hid hi; have H20 := Lib.hid h20
      clear he hd hbd hlz hlaw hcn hi h20 hq hc happ
      by_cases hbq : b = 48 + q
      all_goals
        first | rw [beq_iff_eq.2 hbq] at Hi | rw [beq_eq_false_iff_ne.2 hbq] at Hi
        first | have hbq' : (b == 48 + q) = true := beq_iff_eq.2 hbq | have hbq' : (b == 48 + q) = false := beq_eq_false_iff_ne.2 hbq
        have Hbq := Lib.hid hbq'; clear hbq hbq'
        go_enter Try.func3, Try.ntmps3
        go_wp2_with fail
        refine (digit_any _ _ hs).mono ?_
        rintro en w1 ⟨rfl, hb1⟩
        rw [Hd.out, He.out]
        go_wp2_with fail
        refine (begun_any _).mono ?_
        rintro en w2 ⟨rfl, hb2⟩
        go_wp2_with fail
        refine (byteText_any b _ hbl hbh).mono ?_
        rintro en w3 ⟨rfl, hb3⟩
        rw [← Hc.out]
        go_wp2_with fail
        refine (is_any _ _ hta).mono ?_
        rintro en w4 ⟨rfl, hb4⟩
        rw [Hi.out, H20.out]
        have hbq := Hbq.out
        go_wp2
        go_ret
        exact ⟨rfl, bt (bt (bt hb1 hb2) hb3) hb4⟩
  · have hd : digF s.data.toList = 0 := by unfold digF; rw [if_neg he]
    obtain ⟨q, hq⟩ : ∃ q, q = (led s.data.toList).2 := ⟨_, rfl⟩
    rw [← hq] at he
    have hq0 : (q == 0) = false := by simp [he]
    have hq1 : (q != 0) = true := by simp [he]
    have Hq := Lib.hid hq; have Hd := Lib.hid hd
    clear hq hd he hbd
    go_enter Try.func3, Try.ntmps3
    go_wp2_with fail
    refine (digit_any _ _ hs).mono ?_
    rintro en w1 ⟨rfl, hb1⟩
    rw [Hd.out, ← Hq.out]
    go_wp2_with fail
    refine (begun_any _).mono ?_
    rintro en w2 ⟨rfl, hb2⟩
    go_wp2
    go_ret
    exact ⟨rfl, bt hb1 hb2⟩

theorem cut_one (s : ByteArray) (k : Nat) (h : k < s.size) : s.data.toList = s.data.toList.take k ++ [s[k]] ++ s.data.toList.drop (k + 1) := by
  conv => lhs; rw [← List.take_append_drop (k + 1) s.data.toList]
  rw [take_snocB s k h]
theorem isF_iff (l : List UInt8) : isF l = true ↔ (led l).2 = 0 ∧ (led l).1 = 0 := by unfold isF; simp
set_option maxHeartbeats 2000000 in
theorem one_walk (s : ByteArray) (a b : Int) (w : World) (hs : s.size ≤ maxLen) (hbl : 0 ≤ b) (hbh : b < 256) : Calls Try.prog 4 #[.string s, .int .i64 a, .int .u8 b] w (LT w) := by
  have hbd := led_bd s.data.toList
  by_cases hg : (led s.data.toList).2 = 0 ∧ (led s.data.toList).1 = 0 ∧ 0 ≤ a ∧ a < s.size ∧ 48 ≤ b ∧ b ≤ 57
  · obtain ⟨he, hz, h1, h2, h3, h4⟩ := hg
    obtain ⟨k, rfl⟩ := Int.eq_ofNat_of_zero_le h1
    have hk : k < s.size := by omega
    have hlen : s.size ≤ 24 := by have := (led_zero _ he).2.1; simpa using this
    obtain ⟨c, hc⟩ : ∃ c, c = UInt8.ofNat b.toNat := ⟨_, rfl⟩
    have hcn : (c.toNat : Int) = b := by rw [hc]; simp; omega
    have hi0 : isF s.data.toList = true := (isF_iff _).2 ⟨he, hz⟩
    have hcut := cut_one s k hk
    have he' := he; have hz' := hz
    rw [hcut] at he' hz'
    have hlaw := one_law _ _ _ c he' hz' (by omega) (by omega)
    have hadd1 := fun w => run_string_add_sum (P := Try.prog) w (s.extract 0 k) ⟨#[c]⟩ (by have : (⟨#[c]⟩ : ByteArray).size = 1 := rfl; simp; omega)
    have hadd2 := fun w => run_string_add_sum (P := Try.prog) w (s.extract 0 k ++ ⟨#[c]⟩) (s.extract (k + 1) s.size) (by have : (⟨#[c]⟩ : ByteArray).size = 1 := rfl; simp [ByteArray.size_append, this]; omega)
    have happ : (s.extract 0 k ++ ⟨#[c]⟩ ++ s.extract (k + 1) s.size : ByteArray).data.toList = s.data.toList.take k ++ [c] ++ s.data.toList.drop (k + 1) := by
      simp
      exact List.take_of_length_le (by simp)
    have hta : (s.extract 0 k ++ ⟨#[c]⟩ ++ s.extract (k + 1) s.size : ByteArray).size ≤ maxLen := by
      have : (⟨#[c]⟩ : ByteArray).size = 1 := rfl
      unfold maxLen; simp [ByteArray.size_append, this]; omega
    have hbs : (b == ((s[k]).toNat : Int)) = decide (c = s[k]) := by
      rw [Bool.eq_iff_iff, beq_iff_eq, decide_eq_true_iff, ← hcn]
      exact ⟨fun e => UInt8.toNat.inj (by omega), fun e => by rw [e]⟩
    have hi : isF (s.extract 0 k ++ ⟨#[c]⟩ ++ s.extract (k + 1) s.size : ByteArray).data.toList = decide (c = s[k]) := by
      rw [happ]; unfold isF; rw [decide_eq_true hlaw.1, Bool.true_and, Bool.eq_iff_iff, decide_eq_true_iff, hlaw.2, decide_eq_true_iff]
    have h20 : (led (s.extract 0 k ++ ⟨#[c]⟩ ++ s.extract (k + 1) s.size : ByteArray).data.toList).2 = 0 := by rw [happ]; exact hlaw.1
    by_cases hcs : c = s[k]
    all_goals
      first | rw [decide_eq_true hcs] at hi hbs | rw [decide_eq_false hcs] at hi hbs
      have He := Lib.hid he; have Hc := Lib.hid hc; have Hi := Lib.hid hi; have H20 := Lib.hid h20; have Hi0 := Lib.hid hi0; have Hbs := Lib.hid hbs
      clear he hz hbd hlaw hcn hi h20 hc happ hcut he' hz' hi0 hcs hbs
      go_enter Try.func4, Try.ntmps4
      go_wp2_with fail
      refine (is_any _ _ hs).mono ?_
      rintro en w1 ⟨rfl, hb1⟩
      rw [Hi0.out, He.out]
      go_wp2_with fail
      refine (begun_any _).mono ?_
      rintro en w2 ⟨rfl, hb2⟩
      go_wp2_with fail
      have g1 : IntKind.i64.wrap ((k : Int) + 1) = (k : Int) + 1 := IntWalk.i64_in _ (by omega)
      have g2 : 0 ≤ (k : Int) + 1 := by omega
      have g3 : ((k : Int) + 1).toNat = k + 1 := by omega
      have g4 : (k : Int) + 1 ≤ s.size := by omega
      have g5 : (k : Int) ≤ s.size := by omega
      have g6 : k ≤ s.size := by omega
      have g7 : k + 1 ≤ s.size := by omega
      go_region_with (first | (go_at_call 11; refine (byteText_any b _ hbl hbh).mono ?_; rintro en w3 ⟨rfl, hb3⟩; rw [← Hc.out]) | (go_at_call 10; refine (is_any _ _ hta).mono ?_; rintro en w4 ⟨rfl, hb4⟩; rw [Hi.out, H20.out]))
      clear g1 g2 g3 g4 g5 g6 g7
      have hbs := Hbs.out
      go_wp2
      go_ret
      exact ⟨rfl, bt (bd (bt hb1 hb2) hb3) hb4⟩
  · by_cases hi : (led s.data.toList).2 = 0 ∧ (led s.data.toList).1 = 0
    · have hi0 : isF s.data.toList = true := (isF_iff _).2 hi
      rcases (show a < 0 ∨ (0 ≤ a ∧ (s.size : Int) ≤ a) ∨ (0 ≤ a ∧ a < s.size ∧ b < 48) ∨ (0 ≤ a ∧ a < s.size ∧ 48 ≤ b ∧ 57 < b) by omega) with h1 | ⟨g1, h1⟩ | ⟨g1, g2, h1⟩ | ⟨g1, g2, g3, h1⟩
      all_goals
        have Hi := Lib.hid hi; have Hi0 := Lib.hid hi0
        clear hg hi hi0 hbd
        go_enter Try.func4, Try.ntmps4
        go_wp2_with fail
        refine (is_any _ _ hs).mono ?_
        rintro en w1 ⟨rfl, hb1⟩
        rw [Hi0.out, Hi.out.1]
        go_wp2_with fail
        refine (begun_any _).mono ?_
        rintro en w2 ⟨rfl, hb2⟩
        go_wp2
        go_ret
        exact ⟨rfl, bt hb1 hb2⟩
    · have hi0 : isF s.data.toList = false := by rw [Bool.eq_false_iff]; exact fun h => hi ((isF_iff _).1 h)
      obtain ⟨q, hq⟩ : ∃ q, q = (led s.data.toList).2 := ⟨_, rfl⟩
      have Hq := Lib.hid hq; have Hi0 := Lib.hid hi0
      clear hg hi hi0 hbd hq
      by_cases hq0 : q = 0
      all_goals
        first | have hq1 : (q != 0) = false := by simp [hq0] | have hq1 : (q != 0) = true := by simp [hq0]
        clear hq0
        go_enter Try.func4, Try.ntmps4
        go_wp2_with fail
        refine (is_any _ _ hs).mono ?_
        rintro en w1 ⟨rfl, hb1⟩
        rw [Hi0.out, ← Hq.out]
        go_wp2_with fail
        refine (begun_any _).mono ?_
        rintro en w2 ⟨rfl, hb2⟩
        go_wp2
        go_ret
        exact ⟨rfl, bt hb1 hb2⟩

end Dm
end Go.Proofs.Ytcffcknnhjjdpaa
