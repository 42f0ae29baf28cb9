/- Spelling: the document's: one bit, one byte, a letter's number, a text spelled, great letters as small ones. -/
import Derived.Test.YtkanlfgomfibdaaDoorSpellRaw
set_option linter.unusedSimpArgs false
set_option linter.unusedVariables false
namespace Go.Proofs.YtkanlfgomfibdaaDoor
open Go.RowKit
namespace Sl
open Bt
theorem sB_app (a b : List Nat) : sB a ++ sB b = sB (a ++ b) := by
  apply ba_of
  rw [ByteArray.data_append, Array.toList_append]
  unfold sB by8
  simp
theorem oneR_any (n : Nat) (h : n < 256) (w : World) : Calls Tryd.prog 19 #[.int .i64 n] w fun e w' => e = .returned (.string (sB [n])) ∧ Below w.heap.size w w' := by
  have w8 : IntKind.u8.wrap (n : Int) = (n : Int) := wraps_u8 _ (by omega) (by omega)
  have hcv := conv_bs [n] (fun x hx => by rw [List.mem_singleton] at hx; subst hx; exact h) w.heap.size (w.alloc (.cells #[.int .u8 (n : Int)] 5)) 5 (Box.new w _ _)
  simp only [List.length_cons, List.length_nil, Nat.zero_add] at hcv
  obtain ⟨R, hR⟩ : ∃ R, sB [n] = R := ⟨_, rfl⟩
  rw [hR] at hcv ⊢
  clear hR
  go_enter Tryd.func19, Tryd.ntmps19
  go_wp2
  go_ret
  exact ⟨rfl, (br _).alloc (Nat.le_refl _) _⟩
theorem half (x k : Nat) : x / 2 ^ k / 2 = x / 2 ^ (k + 1) := by rw [Nat.div_div_eq_div_mul, Nat.pow_succ]
set_option maxHeartbeats 1000000 in
theorem bitAt_any (s : ByteArray) (hs : s.size ≤ 1100000) (i : Nat) (hi : i < 8 * s.size) (w : World) : Calls Tryd.prog 17 #[.string s, .int .i64 i] w fun e w' => e = .returned (.int .i64 (bitL 8 (nt s) i : Nat)) ∧ w' = w := by
  have hq : i / 8 < s.size := by omega
  have hix := fun W => idx_str s ((i / 8 : Nat) : Int) (i / 8) rfl hq W
  have hx : (s[i / 8]'hq).toNat = (nt s).getD (i / 8) 0 := by
    rw [getD_lt (by rw [nt_len]; exact hq)]
    unfold nt
    rw [List.getElem_map]
    rfl
  rw [hx] at hix
  have hlt : (nt s).getD (i / 8) 0 < 256 := by rw [getD_lt (by rw [nt_len]; exact hq)]; exact nt_lt s _ (List.getElem_mem _)
  have e1 : (i : Int).tdiv 8 = ((i / 8 : Nat) : Int) := by rw [Int.tdiv_eq_ediv_of_nonneg (by omega)]; omega
  have e2 : (i : Int).tmod 8 = ((i % 8 : Nat) : Int) := by rw [Int.tmod_eq_emod_of_nonneg (by omega)]; omega
  have e1w : IntKind.i64.wrap ((i / 8 : Nat) : Int) = ((i / 8 : Nat) : Int) := IntWalk.i64_in _ (by omega)
  have e2w : IntKind.i64.wrap ((i % 8 : Nat) : Int) = ((i % 8 : Nat) : Int) := IntWalk.i64_in _ (by omega)
  have hR : bitL 8 (nt s) i = (nt s).getD (i / 8) 0 / 2 ^ (7 - i % 8) % 2 := rfl
  rw [hR]
  have hr8 : i % 8 < 8 := Nat.mod_lt _ (by omega)
  generalize (nt s).getD (i / 8) 0 = x at *
  generalize i / 8 = q at *
  generalize i % 8 = r at *
  obtain ⟨m, hm⟩ : ∃ m, 7 - r = m := ⟨_, rfl⟩
  have hmI : (7 : Int) - (r : Int) = (m : Int) := by omega
  rw [hm]
  have hm7 : (m : Int) ≤ 7 := by omega
  obtain ⟨RES, hRES⟩ : ∃ R, x / 2 ^ m % 2 = R := ⟨_, rfl⟩
  rw [hRES]
  have HRES := Lib.hid hRES
  clear hx hR hm hi hs hRES
  go_enter Tryd.func17, Tryd.ntmps17
  go_wp2
  go_loop [5, 6] (fun n k => ∃ j : Nat, j ≤ m ∧ k = .int .i64 j ∧ n = .int .i64 (x / 2 ^ j : Nat)) (fun _ k => m - (intOf k).toNat)
  case atStart => exact ⟨0, Nat.zero_le _, rfl, by simp⟩
  case round =>
    obtain ⟨j, hj, rfl, rfl⟩ := hrel
    have hh := half x j
    have hyl : x / 2 ^ j < 256 := Nat.lt_of_le_of_lt (Nat.div_le_self _ _) hlt
    by_cases hjm : j < m
    · have i1 : (j : Int) < (m : Int) := by omega
      generalize x / 2 ^ j = y at *
      have e5 : (y : Int).tdiv 2 = ((x / 2 ^ (j + 1) : Nat) : Int) := by rw [← hh, Int.tdiv_eq_ediv_of_nonneg (by omega)]; omega
      have hzl : x / 2 ^ (j + 1) < 256 := Nat.lt_of_le_of_lt (Nat.div_le_self _ _) hlt
      have e5w : IntKind.i64.wrap ((x / 2 ^ (j + 1) : Nat) : Int) = ((x / 2 ^ (j + 1) : Nat) : Int) := IntWalk.i64_in _ (by omega)
      obtain ⟨z, hz⟩ : ∃ z, x / 2 ^ (j + 1) = z := ⟨_, rfl⟩
      rw [hz] at e5 e5w
      have e5' : (y : Int) / 2 = (z : Int) := by rw [← e5, Int.tdiv_eq_ediv_of_nonneg (by omega)]
      have HZ := Lib.hid hz
      clear hz hh hzl
      go_wp2
      go_round
      case rel => exact ⟨j + 1, by omega, by go_num, by rw [HZ.out]⟩
      case measure => simp [intOf]; omega
    · have e : j = m := by omega
      subst e
      have E6 := Lib.hid (show ((x / 2 ^ j : Nat) : Int) % 2 = (RES : Int) by rw [← HRES.out]; omega)
      generalize x / 2 ^ j = y at *
      clear hh
      go_wp2
      go_ret
      exact ⟨by show Ending.returned (.int .i64 ((y : Int) % 2)) = _; rw [E6.out], rfl⟩
/-- the small letters -/
def smalls : List Nat := [48, 49, 50, 51, 52, 53, 54, 55, 56, 57, 97, 98, 99, 100, 101, 102, 103, 104, 106, 107, 109, 110, 112, 113, 114, 115, 116, 118, 119, 120, 121, 122]
def smallsB : ByteArray := ⟨#[48, 49, 50, 51, 52, 53, 54, 55, 56, 57, 97, 98, 99, 100, 101, 102, 103, 104, 106, 107, 109, 110, 112, 113, 114, 115, 116, 118, 119, 120, 121, 122]⟩
theorem smalls_at (n : Nat) (h : n < 32) (w : World) : (Instr.index 9 (.string smallsB) (.int .i64 n)).run Tryd.prog w = .ok (.int .u8 (smalls.getD n 0 : Nat)) w := by
  rw [idx_str smallsB n n rfl (by show n < 32; exact h) w]
  have : ∀ n : Nat, ∀ h : n < 32, (smallsB[n]'(by show n < 32; exact h)).toNat = smalls.getD n 0 := by decide +kernel
  rw [this n h]
def hitB (c n : Nat) : Bool := letter n == c || smalls.getD n 0 == c
theorem hit_num : ∀ c < 256, ∀ n < 32, hitB c n = true → num c = n := by decide +kernel
theorem miss_num : ∀ c < 256, (∀ n < 32, hitB c n = false) → num c = if c = 111 ∨ c = 79 then 0 else if c = 105 ∨ c = 73 ∨ c = 108 ∨ c = 76 then 1 else if c = 45 then 32 else 33 := by decide +kernel
set_option maxHeartbeats 1000000 in
theorem letterR_any (c : Nat) (hc : c < 256) (w : World) : Calls Tryd.prog 18 #[.int .u8 c] w fun e w' => e = .returned (.int .i64 (num c : Nat)) ∧ w' = w := by
  have hh := hit_num c hc
  have hm := miss_num c hc
  obtain ⟨R, hR⟩ : ∃ R, num c = R := ⟨_, rfl⟩
  rw [hR] at hm ⊢
  have HH := Lib.hid hh; have HM := Lib.hid hm; have HR := Lib.hid hR
  have hA := letters_at; have hB := smalls_at
  unfold lettersB at hA
  unfold smallsB at hB
  have HA := Lib.hid hA; have HB := Lib.hid hB
  clear hh hm hR hA hB
  go_enter Tryd.func18, Tryd.ntmps18
  go_wp2
  go_loop [5] (fun n => ∃ k : Nat, k ≤ 32 ∧ n = .int .i64 k ∧ RowKit.Hid (∀ j < k, hitB c j = false)) (fun n => 32 - (intOf n).toNat)
  case atStart => exact ⟨0, by omega, rfl, Lib.hid (fun j hj => by omega)⟩
  case round =>
    obtain ⟨k, hk, rfl, hno⟩ := hrel
    by_cases hk32 : k < 32
    · have i1 : (k : Int) < 32 := by omega
      have i0 : (0 : Int) ≤ (k : Int) := by omega
      have ha := HA.out k hk32
      have hb := HB.out k hk32
      have hhit := HH.out k hk32
      rw [HR.out] at hhit
      unfold hitB at hhit
      have hno2 : hitB c k = false → ∀ j < k + 1, hitB c j = false := fun h j hj => by
        by_cases e : j = k
        · subst e; exact h
        · exact hno.out j (by omega)
      unfold hitB at hno2
      generalize letter k = a at *
      generalize smalls.getD k 0 = b at *
      have HN := Lib.hid hno2; have HHI := Lib.hid hhit
      clear hno2 hhit hno HM
      by_cases c1 : a = c
      · subst c1
        have hr := HHI.out (by simp)
        subst hr
        have e1 : ((a : Int) == (a : Int)) = true := by simp
        go_wp2
        go_ret
        exact ⟨rfl, rfl⟩
      · have e1 : ((a : Int) == (c : Int)) = false := by simp; omega
        by_cases c2 : b = c
        · subst c2
          have hr := HHI.out (by simp)
          subst hr
          have e2 : ((b : Int) == (b : Int)) = true := by simp
          go_wp2
          go_ret
          exact ⟨rfl, rfl⟩
        · have e2 : ((b : Int) == (c : Int)) = false := by simp; omega
          have hn := HN.out (by simp [c1, c2])
          have HN2 := Lib.hid hn
          clear hn
          go_wp2
          go_round
          case rel => exact ⟨k + 1, by omega, by go_num, HN2⟩
          case measure => simp [intOf]; omega
    · have e : k = 32 := by omega
      subst e
      have hm := HM.out hno.out
      clear HA HB HH HR HM hno
      by_cases c1 : c = 111
      · subst c1
        rw [if_pos (by decide)] at hm
        subst hm
        go_wp2
        go_ret
        exact ⟨rfl, rfl⟩
      by_cases c2 : c = 79
      · subst c2
        rw [if_pos (by decide)] at hm
        subst hm
        go_wp2
        go_ret
        exact ⟨rfl, rfl⟩
      rw [if_neg (by omega)] at hm
      have f1 : ((c : Int) == 111) = false := by simp; omega
      have f2 : ((c : Int) == 79) = false := by simp; omega
      by_cases c3 : c = 105
      · subst c3
        rw [if_pos (by decide)] at hm
        subst hm
        go_wp2
        go_ret
        exact ⟨rfl, rfl⟩
      by_cases c4 : c = 73
      · subst c4
        rw [if_pos (by decide)] at hm
        subst hm
        go_wp2
        go_ret
        exact ⟨rfl, rfl⟩
      by_cases c5 : c = 108
      · subst c5
        rw [if_pos (by decide)] at hm
        subst hm
        go_wp2
        go_ret
        exact ⟨rfl, rfl⟩
      by_cases c6 : c = 76
      · subst c6
        rw [if_pos (by decide)] at hm
        subst hm
        go_wp2
        go_ret
        exact ⟨rfl, rfl⟩
      rw [if_neg (by omega)] at hm
      have f3 : ((c : Int) == 105) = false := by simp; omega
      have f4 : ((c : Int) == 73) = false := by simp; omega
      have f5 : ((c : Int) == 108) = false := by simp; omega
      have f6 : ((c : Int) == 76) = false := by simp; omega
      by_cases c7 : c = 45
      · subst c7
        rw [if_pos rfl] at hm
        subst hm
        go_wp2
        go_ret
        exact ⟨rfl, rfl⟩
      · rw [if_neg c7] at hm
        have f7 : ((c : Int) == 45) = false := by simp; omega
        subst hm
        go_wp2
        go_ret
        exact ⟨rfl, rfl⟩
end Sl
end Go.Proofs.YtkanlfgomfibdaaDoor
