/- The document's words of a text. -/
import Derived.Test.YtmeoeihfgmmgmaaTagOwn
import Derived.Test.YtmeoeihfgmmgmaaTagRef3
set_option linter.unusedVariables false
namespace Go.Proofs.Ytmeoeihfgmmgmaa
open Go.RowKit
namespace Tg
theorem run_idx (s : ByteArray) (p : Nat) (h : p < s.size) (w : World) : (Instr.index 9 (.string s) (.int .i64 (p : Int))).run Try.prog w = .ok (.int .u8 (((s.data.toList.getD p 0).toNat : Nat) : Int)) w := by
  rw [run_index_string w 9 s .i64 p Try.underlying9, dif_pos ⟨by omega, by omega⟩]
  congr 3
  have h1 : ((p : Int)).toNat = p := by simp
  simp only [h1]
  rw [List.getD_eq_getElem?_getD, List.getElem?_eq_getElem (by simpa using h)]
  simp; rfl
theorem take_w (l : List UInt8) (j : Nat) (h : 8 * j + 8 ≤ l.length) : ((words l).map wi).take (j + 1) = ((words l).map wi).take j ++ [((U l 0 (8 * j) 8 : Nat) : Int)] := by
  obtain ⟨hj, e⟩ := word_whole l j h
  rw [List.take_succ_eq_append_getElem (by simpa using hj)]
  simp [e]
theorem take_last (l : List UInt8) : (words l).map wi = ((words l).map wi).take (l.length / 8) ++ [((U l (l.length % 256) (8 * (l.length / 8)) 7 : Nat) : Int)] := by
  obtain ⟨hj, e⟩ := word_last l
  have hl := words_len l
  have h1 : ((words l).map wi).take (l.length / 8 + 1) = (words l).map wi := List.take_of_length_le (by simp [hl])
  have h2 := List.take_succ_eq_append_getElem (l := (words l).map wi) (i := l.length / 8) (by simpa using hj)
  rw [h1] at h2
  refine h2.trans ?_
  simp [e]
theorem take_len (l : List UInt8) (j : Nat) (h : j ≤ l.length / 8) : (((words l).map wi).take j).length = j := by
  rw [List.length_take]; simp [words_len]; omega
theorem U_bd0 (l : List UInt8) (m p : Nat) (h : m ≤ 7) : U l 0 p m ≤ 72057594037927935 := by
  have h1 := U_lt0 l m p
  have h2 : 2 ^ (8 * m) ≤ 2 ^ 56 := Nat.pow_le_pow_right (by omega) (by omega)
  omega
theorem U_bdt (l : List UInt8) (t m p : Nat) (ht : t < 256) (h : m ≤ 6) : U l t p m ≤ 72057594037927935 := by
  have h1 := U_lt l t ht m p
  have h2 : 2 ^ (8 * (m + 1)) ≤ 2 ^ 56 := Nat.pow_le_pow_right (by omega) (by omega)
  omega
set_option maxHeartbeats 2000000 in
theorem wordsOf_any (s : ByteArray) (w : World) (hs : s.size ≤ 140737488351232) : Calls Try.prog 38 #[.string s] w fun e w' => ∃ v, e = .returned v ∧ OwnU w' w.heap.size v ((words s.data.toList).map wi) ∧ Below w.heap.size w w' := by
  have hll : s.data.toList.length = s.size := by simp
  have HLL := Lib.hid hll; clear hll
  have HN := Lib.hid (own_nilU w w.heap.size)
  go_enter Try.func38, Try.ntmps38
  go_wp2
  go_loopw [3, 4] (fun v f wr => ∃ j : Nat, j ≤ s.size / 8 ∧ f = .int .i64 ((8 * j : Nat) : Int) ∧ OwnU wr w.heap.size v (((words s.data.toList).map wi).take j) ∧ Below w.heap.size w wr) (fun _ f _ => s.size - (intOf f).toNat)
  case atStart => exact ⟨0, Nat.zero_le _, rfl, HN.out, br _⟩
  case round =>
    obtain ⟨j, hj, rfl, hown, hbw⟩ := hrel
    obtain ⟨F, hF⟩ : ∃ F : Nat, F = 8 * j := ⟨_, rfl⟩
    rw [← hF]
    have hFb : F ≤ 140737488351232 := by omega
    have htl := take_len s.data.toList j (by have := HLL.out; omega)
    have HO := Lib.hid hown; have HB := Lib.hid hbw; have HF := Lib.hid hF
    by_cases hlt : F + 8 ≤ s.size
    · have hsn := take_w s.data.toList j (by have := HLL.out; omega)
      rw [← hF] at hsn
      have HSN := Lib.hid hsn
      have HTL := Lib.hid htl
      have hj8 : F + 8 = 8 * (j + 1) := by omega
      have HJ8 := Lib.hid hj8
      have hj1 : j + 1 ≤ s.size / 8 := by omega
      have HJ1 := Lib.hid hj1
      clear hsn htl hown hbw HN hF hj8 hj hj1
      go_wp2
      go_loopw [5, 6] (fun n k wq => ∃ m : Nat, m ≤ 8 ∧ k = .int .i64 (7 - (m : Int)) ∧ n = .int .u64 ((U s.data.toList 0 (F + 8 - m) m : Nat) : Int) ∧ Below wr.heap.size wr wq) (fun _ k _ => (intOf k + 1).toNat)
      case atStart => exact ⟨0, by omega, rfl, rfl, br wr⟩
      case round =>
        obtain ⟨m, hm, rfl, rfl, hbq⟩ := hrel
        by_cases hlm : m ≤ 7
        · obtain ⟨kk, hkk⟩ : ∃ kk : Nat, (7 : Int) - m = kk := ⟨7 - m, by omega⟩
          rw [hkk]
          obtain ⟨p, hp⟩ : ∃ p : Nat, p = F + kk := ⟨_, rfl⟩
          have hps : p < s.size := by omega
          have hix := run_idx s p hps
          have hc := (s.data.toList.getD p 0).toNat_lt
          have hU : U s.data.toList 0 (F + 8 - (m + 1)) (m + 1) = 256 * U s.data.toList 0 (F + 8 - m) m + (s.data.toList.getD p 0).toNat := by
            rw [U, show F + 8 - (m + 1) + 1 = F + 8 - m by omega, show F + 8 - (m + 1) = p by omega]
          have hNb := U_bd0 s.data.toList m (F + 8 - m) hlm
          have HU := Lib.hid hU; clear hU
          generalize (s.data.toList.getD p 0).toNat = c at *
          generalize U s.data.toList 0 (F + 8 - m) m = N at *
          have hfk : (F : Int) + (kk : Int) = (p : Int) := by omega
          have hp0 : (p : Int) ≤ 140737488351232 := by omega
          have hk0 : (0 : Int) ≤ (kk : Int) := by omega
          have hk7 : (kk : Int) ≤ 7 := by omega
          have hc' : (c : Int) ≤ 255 := by omega
          have hNb' : (N : Int) ≤ 72057594037927935 := by omega
          clear hp hps HSN HO HB HTL hlt hFb
          go_wp2
          go_roundw
          case rel => exact ⟨m + 1, by omega, by go_num, by rw [HU.out]; go_num, by first | exact hbq | exact bn hbq _⟩
          case measure => first | (simp [intOf]; done) | (simp [intOf]; omega)
        · obtain rfl : m = 8 := by omega
          have hg : U s.data.toList 0 (F + 8 - 8) 8 = U s.data.toList 0 F 8 := by rw [show F + 8 - 8 = F by omega]
          rw [hg]
          generalize U s.data.toList 0 F 8 = Y at *
          generalize ((words s.data.toList).map wi).take j = Xs at *
          clear hg
          have HO2 := Lib.hid (HO.out.next hbq)
          have HB2 := Lib.hid (bt HB.out hbq)
          clear HO HB hbq
          go_wp2_with (at_builtin; refine app_u rfl (.tmp 30) (.tmp 32) rfl w.heap.size _ Xs rfl (HO2.out.next ((br _).alloc (Nat.le_refl _) (.cells #[.int .u64 (Y : Int)] 23))) _ 1 (Y : Int) rfl (by rw [World.cell?_alloc_mark]; rfl) (by have := HTL.out; have := HJ1.out; omega) (by have := HB2.out.size; simp; omega) ?_; intro v1 w5 hown1 hb5; have HO1 := Lib.hid hown1; have HB5 := Lib.hid ((HB2.out.alloc HB2.out.size _).trans hb5); clear hown1 hb5)
          go_roundw
          case rel => exact ⟨j + 1, HJ1.out, by rw [← HJ8.out]; go_num, by rw [HSN.out]; exact HO1.out, HB5.out⟩
          case measure => simp [intOf]; omega
    · obtain rfl : j = s.size / 8 := by omega
      have htl2 := take_last s.data.toList
      rw [HLL.out] at htl2
      rw [← hF] at htl2
      have hleft : s.size - F = s.size % 8 := by omega
      have hF2 : F ≤ s.size := by omega
      have hF3 : s.size < F + 8 := by omega
      have ht : s.size % 256 < 256 := by omega
      have HT2 := Lib.hid htl2; have HTL := Lib.hid htl; have HLE := Lib.hid hleft
      have hlt : ¬(F : Int) + 8 ≤ (s.size : Int) := by omega
      clear htl2 htl hleft hown hbw hF hj HN
      obtain ⟨L, hL⟩ : ∃ L : Nat, L = s.size % 8 := ⟨_, rfl⟩
      obtain ⟨T, hT⟩ : ∃ T : Nat, T = s.size % 256 := ⟨_, rfl⟩
      rw [← hT] at HT2 ht
      rw [← hL] at HLE
      have q1 : (s.size : Int).tmod 8 = (L : Int) := by rw [Int.tmod_eq_emod_of_nonneg (by omega)]; omega
      have q2 : (s.size : Int).tmod 256 = (T : Int) := by rw [Int.tmod_eq_emod_of_nonneg (by omega)]; omega
      have q1' : (s.size : Int) % 8 = (L : Int) := by omega
      have q2' : (s.size : Int) % 256 = (T : Int) := by omega
      have hL7 : L ≤ 7 := by omega
      have hLF : s.size = F + L := by have := HLE.out; omega
      have HLF := Lib.hid hLF
      clear hL hT HLE hLF
      go_wp2
      go_loopw [7, 9] (fun n k wq => ∃ m : Nat, m ≤ 7 ∧ k = .int .i64 (6 - (m : Int)) ∧ n = .int .u64 ((U s.data.toList T (F + 7 - m) m : Nat) : Int) ∧ Below wr.heap.size wr wq) (fun _ k _ => (intOf k + 1).toNat)
      case atStart => exact ⟨0, by omega, rfl, rfl, br wr⟩
      case round =>
        obtain ⟨m, hm, rfl, rfl, hbq⟩ := hrel
        by_cases hlm : m ≤ 6
        · obtain ⟨kk, hkk⟩ : ∃ kk : Nat, (6 : Int) - m = kk := ⟨6 - m, by omega⟩
          rw [hkk]
          obtain ⟨p, hp⟩ : ∃ p : Nat, p = F + kk := ⟨_, rfl⟩
          have hU : U s.data.toList T (F + 7 - (m + 1)) (m + 1) = 256 * U s.data.toList T (F + 7 - m) m + (s.data.toList.getD p 0).toNat := by
            rw [U, show F + 7 - (m + 1) + 1 = F + 7 - m by omega, show F + 7 - (m + 1) = p by omega]
          have hNb := U_bdt s.data.toList T m (F + 7 - m) ht hlm
          have hk0 : (0 : Int) ≤ (kk : Int) := by omega
          have hk7 : (kk : Int) ≤ 6 := by omega
          by_cases hkL : kk < L
          · have hps : p < s.size := by have := HLF.out; omega
            have hix := run_idx s p hps
            have hc := (s.data.toList.getD p 0).toNat_lt
            have HU := Lib.hid hU; clear hU
            generalize (s.data.toList.getD p 0).toNat = c at *
            generalize U s.data.toList T (F + 7 - m) m = N at *
            have e1 : (s.size : Int) - (L : Int) = (F : Int) := by have := HLF.out; omega
            have hfk : (F : Int) + (kk : Int) = (p : Int) := by omega
            have hp0 : (p : Int) ≤ 140737488351232 := by omega
            have hc' : (c : Int) ≤ 255 := by omega
            have hNb' : (N : Int) ≤ 72057594037927935 := by omega
            clear hp hps HO HB HTL hlt hFb HT2 q1 q2 q1' q2'
            go_wp2
            go_roundw
            case rel => exact ⟨m + 1, by omega, by go_num, by rw [HU.out]; go_num, by first | exact hbq | exact bn hbq _⟩
            case measure => first | (simp [intOf]; done) | (simp [intOf]; omega)
          · have hz : s.data.toList.getD p 0 = 0 := by
              rw [List.getD_eq_getElem?_getD, List.getElem?_eq_none (by have := HLF.out; have := HLL.out; omega)]; rfl
            rw [hz] at hU
            have HU := Lib.hid hU; clear hU
            generalize U s.data.toList T (F + 7 - m) m = N at *
            have hNb' : (N : Int) ≤ 72057594037927935 := by omega
            have hkL' : ¬(kk : Int) < (L : Int) := by omega
            clear hp HO HB HTL hlt hFb HT2 q1 q2 q1' q2'
            go_wp2
            go_roundw
            case rel => exact ⟨m + 1, by omega, by go_num, by rw [HU.out]; go_num, by first | exact hbq | exact bn hbq _⟩
            case measure => first | (simp [intOf]; done) | (simp [intOf]; omega)
        · obtain rfl : m = 7 := by omega
          rw [show F + 7 - 7 = F by omega]
          generalize U s.data.toList T F 7 = Y at *
          generalize ((words s.data.toList).map wi).take (s.size / 8) = Xs at *
          have HO2 := Lib.hid (HO.out.next hbq)
          have HB2 := Lib.hid (bt HB.out hbq)
          clear HO HB hbq
          go_wp2_with (at_builtin; refine app_u rfl (.tmp 61) (.tmp 63) rfl w.heap.size _ Xs rfl (HO2.out.next ((br _).alloc (Nat.le_refl _) (.cells #[.int .u64 (Y : Int)] 23))) _ 1 (Y : Int) rfl (by rw [World.cell?_alloc_mark]; rfl) (by have := HTL.out; omega) (by have := HB2.out.size; simp; omega) ?_; intro v1 w5 hown1 hb5; have HO1 := Lib.hid hown1; have HB5 := Lib.hid ((HB2.out.alloc HB2.out.size _).trans hb5); clear hown1 hb5)
          go_wp2
          go_ret
          exact ⟨_, rfl, by rw [HT2.out]; exact HO1.out, HB5.out⟩
end Tg
end Go.Proofs.Ytmeoeihfgmmgmaa
