/- The document's function that leads digits through the table, by induction on the text's length. -/
import Derived.Test.YtcffcknnhjjdpaaDammRef
import Derived.Lib.Strings
namespace Go.Proofs.Ytcffcknnhjjdpaa
open Go.RowKit
namespace Dm

theorem led_nil : led [] = (0, 0) := by decide
theorem led_bad (l : List UInt8) (c : UInt8) (hm : c ∈ l) (hc : c.toNat < 48 ∨ 57 < c.toNat) : led l = (0, 1) := by
  unfold led; rw [if_neg]; intro h; have := h c hm; omega
theorem led_many (l : List UInt8) (hok : okD l) (h : 24 < l.length) : led l = (0, 2) := by
  unfold led; rw [if_pos hok, if_pos h]
theorem led_snoc (l : List UInt8) (c : UInt8) (hok : okD (l ++ [c])) (h : (l ++ [c]).length ≤ 24) : led l = (fold l, 0) ∧ led (l ++ [c]) = (tab (fold l) ((c.toNat : Int) - 48), 0) := by
  have h1 := (okD_snoc l c).1 hok
  unfold led
  have h2 : ¬ (l ++ [c]).length > 24 := by omega
  have h3 : ¬ l.length > 24 := by simp at h; omega
  rw [if_pos h1.1, if_pos hok, if_neg h2, if_neg h3, fold_snoc]; exact ⟨rfl, rfl⟩
theorem take_snocB (s : ByteArray) (k : Nat) (h : k < s.size) : s.data.toList.take (k + 1) = s.data.toList.take k ++ [s[k]] := by
  rw [List.take_succ_eq_append_getElem (by simpa using h)]; rfl
theorem memB (s : ByteArray) (k : Nat) (h : k < s.size) : s[k] ∈ s.data.toList := by
  have : s[k] = s.data.toList[k]'(by simpa using h) := rfl
  rw [this]; exact List.getElem_mem _
theorem list_snoc (l : List UInt8) (n : Nat) (h : l.length = n + 1) : l = l.take n ++ [l[n]'(by omega)] := by
  conv => lhs; rw [← List.take_of_length_le (Nat.le_of_eq h)]
  rw [take_snoc l n (by omega)]


set_option maxHeartbeats 2000000 in
theorem ledR_any : ∀ (n : Nat) (s : ByteArray) (w : World), s.size ≤ n → s.size ≤ maxLen → Calls Try.prog 14 #[.string s] w (LedQ s.data.toList w) := by
  intro n
  induction n with
  | zero =>
    intro s w hn hs
    have hl : s.data.toList = [] := List.eq_nil_of_length_eq_zero (by simpa using hn)
    unfold LedQ
    rw [hl, led_nil]
    have hz : s.size = 0 := by omega
    clear hn hs
    go_enter Try.func14, Try.ntmps14
    go_wp2
    refine wp_loop_rounds 1 ?_; rw [rounds_succ]
    go_wp2
    go_ret2
    exact ⟨rfl, Below.refl _ _⟩
  | succ n ih =>
    intro s w hn hs
    have IH := Lib.hid ih; clear ih
    unfold maxLen at hs
    go_enter Try.func14, Try.ntmps14
    go_wp2
    go_loop [4] (fun i => ∃ k : Nat, k ≤ s.size ∧ okD (s.data.toList.take k) ∧ i = .int .i64 k) (fun i => s.size - (intOf i).toNat)
    case atStart => exact ⟨0, Nat.zero_le _, by simp [okD], rfl⟩
    case round =>
      obtain ⟨k, hk, hok, rfl⟩ := hrel
      by_cases hlt : k < s.size
      · have hts := take_snocB s k hlt
        have hcb : (s[k]).toNat < 256 := (s[k]).toNat_lt
        have HT := Lib.hid hts; clear hts
        have Hok := Lib.hid hok; clear hok
        by_cases hd : 48 ≤ (s[k]).toNat ∧ (s[k]).toNat ≤ 57
        · obtain ⟨hd1, hd2⟩ := hd
          go_wp2
          go_round
          case rel => exact ⟨k + 1, by omega, by rw [HT.out]; exact (okD_snoc _ _).2 ⟨Hok.out, hd1, hd2⟩, by go_num⟩
          case measure => simp [intOf]; omega
        · have hno : led s.data.toList = (0, 1) := led_bad _ _ (memB s k hlt) (by omega)
          have Hno := Lib.hid hno; clear hno
          rcases (show (s[k]).toNat < 48 ∨ 57 < (s[k]).toNat by omega) with hd1 | hd1
          all_goals
            clear hd
            go_wp2
            go_ret2
            exact ⟨by rw [Hno.out]; rfl, Below.refl _ _⟩
      · have hge : s.size ≤ k := by omega
        clear hlt
        have hall : s.data.toList.take k = s.data.toList := List.take_of_length_le (by simpa using hge)
        rw [hall] at hok
        by_cases hl : 24 < s.size
        · have hno := led_many s.data.toList hok (by simpa using hl)
          have Hno := Lib.hid hno; clear hno hok hall
          go_wp2
          go_ret2
          exact ⟨by rw [Hno.out]; rfl, Below.refl _ _⟩
        · by_cases hz : s.size = 0
          · have hz' : s.data.toList = [] := List.eq_nil_of_length_eq_zero (by simpa using hz)
            have hno : led s.data.toList = (0, 0) := by rw [hz', led_nil]
            have Hno := Lib.hid hno; clear hno hok hall hz'
            go_wp2
            go_ret2
            exact ⟨by rw [Hno.out]; rfl, Below.refl _ _⟩
          · have hm : s.size - 1 < s.size := by omega
            have hsn : s.data.toList = s.data.toList.take (s.size - 1) ++ [s[s.size - 1]] := by
              have := take_snocB s (s.size - 1) hm
              rw [show s.size - 1 + 1 = s.size by omega, List.take_of_length_le (by simp)] at this
              exact this
            have hok2 : okD (s.data.toList.take (s.size - 1) ++ [s[s.size - 1]]) := by rw [← hsn]; exact hok
            have hlen : (s.data.toList.take (s.size - 1) ++ [s[s.size - 1]]).length ≤ 24 := by rw [← hsn]; simpa using hl
            have hls := led_snoc _ _ hok2 hlen
            rw [← hsn] at hls
            have hc := ((okD_snoc _ _).1 hok2).2
            have hfb := fold_bd _ ((okD_snoc _ _).1 hok2).1
            obtain ⟨a, ha⟩ : ∃ a, a = fold (s.data.toList.take (s.size - 1)) := ⟨_, rfl⟩
            rw [← ha] at hls hfb
            obtain ⟨c, hcc⟩ : ∃ c, c = (s[s.size - 1]).toNat := ⟨_, rfl⟩
            rw [← hcc] at hls hc
            have ht : (s.extract 0 (s.size - 1)).data.toList = s.data.toList.take (s.size - 1) := by rw [Lib.extract_data]; simp
            have hts : (s.extract 0 (s.size - 1)).size ≤ s.size - 1 := by simp
            generalize htt : s.extract 0 (s.size - 1) = t at ht hts
            have Htt := Lib.hid htt; have Ht := Lib.hid ht; have Hls := Lib.hid hls; have Hcc := Lib.hid hcc
            clear htt ht hls hcc hall hsn hok2 hlen hok ha
            go_wp2_with fail
            rw [Htt.out]
            refine (IH.out t w (by omega) (by unfold maxLen; omega)).mono ?_
            rintro en w1 ⟨rfl, hbel⟩
            rw [Ht.out, Hls.out.1]
            go_wp2_with fail
            rw [← Hcc.out, IntWalk.wrap64_in (c : Int) (by omega), IntWalk.wrap64_in _ (by omega)]
            refine (stepR_any a ((c : Int) - 48) w1).mono ?_
            rintro en w2 ⟨rfl, hbel2⟩
            rw [show stepF a ((c : Int) - 48) = (tab a ((c : Int) - 48), 0) by unfold stepF; rw [if_neg (by omega)]]
            go_wp2
            go_ret2
            exact ⟨by rw [Hls.out.2]; rfl, hbel.trans (hbel2.mono hbel.size)⟩
end Dm
end Go.Proofs.Ytcffcknnhjjdpaa
