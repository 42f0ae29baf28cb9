/- Joined by shake.py: SpellRef SpellRef2 SpellRef3. -/
import Derived.Test.YtdfdjampodkpgaaDoorJSpell
import Derived.Test.YtdfdjampodkpgaaDoorJSpellR
set_option linter.unusedSimpArgs false
set_option linter.unusedVariables false

/-! SpellRef -/
section
/- Spelling: the document's: one bit, one byte, a letter's number, a text spelled, great letters as small ones. -/
set_option linter.unusedSimpArgs false
set_option linter.unusedVariables false
namespace Go.Proofs.YtdfdjampodkpgaaDoor
open Go.RowKit
namespace Sl
open Bt
theorem sB_app (a b : List Nat) : sB a ++ sB b = sB (a ++ b) := by
  apply ba_of
  rw [ByteArray.data_append, Array.toList_append]
  unfold sB by8
  simp
theorem oneR_any (n : Nat) (h : n < 256) (w : World) : Calls Tryd.prog 45 #[.int .i64 n] w fun e w' => e = .returned (.string (sB [n])) ∧ Below w.heap.size w w' := by
  have w8 : IntKind.u8.wrap (n : Int) = (n : Int) := wraps_u8 _ (by omega) (by omega)
  have hcv := conv_bs [n] (fun x hx => by rw [List.mem_singleton] at hx; subst hx; exact h) w.heap.size (w.alloc (.cells #[.int .u8 (n : Int)] 5)) 5 (Box.new w _ _)
  simp only [List.length_cons, List.length_nil, Nat.zero_add] at hcv
  obtain ⟨R, hR⟩ : ∃ R, sB [n] = R := ⟨_, rfl⟩
  rw [hR] at hcv ⊢
  clear hR
  go_enter Tryd.func45, Tryd.ntmps45
  go_wp2
  go_ret
  exact ⟨rfl, (br _).alloc (Nat.le_refl _) _⟩
theorem half (x k : Nat) : x / 2 ^ k / 2 = x / 2 ^ (k + 1) := by rw [Nat.div_div_eq_div_mul, Nat.pow_succ]
set_option maxHeartbeats 1000000 in
theorem bitAt_any (s : ByteArray) (hs : s.size ≤ 1100000) (i : Nat) (hi : i < 8 * s.size) (w : World) : Calls Tryd.prog 67 #[.string s, .int .i64 i] w fun e w' => e = .returned (.int .i64 (bitL 8 (nt s) i : Nat)) ∧ w' = w := by
  have hq : i / 8 < s.size := by omega
  have hix := fun W => idx_str s ((i / 8 : Nat) : Int) (i / 8) rfl hq W
  have hx : (s[i / 8]'hq).toNat = (nt s).getD (i / 8) 0 := by
    rw [getD_lt (by rw [nt_len]; exact hq)]
    unfold nt
    rw [List.getElem_map]
    rfl
  rw [hx] at hix
  have hlt : (nt s).getD (i / 8) 0 < 256 := by rw [getD_lt (by rw [nt_len]; exact hq)]; exact nt_lt s _ (List.getElem_mem _)
  have e1 : (i : Int).tdiv 8 = ((i / 8 : Nat) : Int) := by rw [Int.tdiv_eq_ediv_of_nonneg (by omega)]; omega
  have e2 : (i : Int).tmod 8 = ((i % 8 : Nat) : Int) := by rw [Int.tmod_eq_emod_of_nonneg (by omega)]; omega
  have e1w : IntKind.i64.wrap ((i / 8 : Nat) : Int) = ((i / 8 : Nat) : Int) := IntWalk.i64_in _ (by omega)
  have e2w : IntKind.i64.wrap ((i % 8 : Nat) : Int) = ((i % 8 : Nat) : Int) := IntWalk.i64_in _ (by omega)
  have hR : bitL 8 (nt s) i = (nt s).getD (i / 8) 0 / 2 ^ (7 - i % 8) % 2 := rfl
  rw [hR]
  have hr8 : i % 8 < 8 := Nat.mod_lt _ (by omega)
  generalize (nt s).getD (i / 8) 0 = x at *
  generalize i / 8 = q at *
  generalize i % 8 = r at *
  obtain ⟨m, hm⟩ : ∃ m, 7 - r = m := ⟨_, rfl⟩
  have hmI : (7 : Int) - (r : Int) = (m : Int) := by omega
  rw [hm]
  have hm7 : (m : Int) ≤ 7 := by omega
  obtain ⟨RES, hRES⟩ : ∃ R, x / 2 ^ m % 2 = R := ⟨_, rfl⟩
  rw [hRES]
  have HRES := Lib.hid hRES
  clear hx hR hm hi hs hRES
  go_enter Tryd.func67, Tryd.ntmps67
  go_wp2
  go_loop [5, 6] (fun n k => ∃ j : Nat, j ≤ m ∧ k = .int .i64 j ∧ n = .int .i64 (x / 2 ^ j : Nat)) (fun _ k => m - (intOf k).toNat)
  case atStart => exact ⟨0, Nat.zero_le _, rfl, by simp⟩
  case round =>
    obtain ⟨j, hj, rfl, rfl⟩ := hrel
    have hh := half x j
    have hyl : x / 2 ^ j < 256 := Nat.lt_of_le_of_lt (Nat.div_le_self _ _) hlt
    by_cases hjm : j < m
    · have i1 : (j : Int) < (m : Int) := by omega
      generalize x / 2 ^ j = y at *
      have e5 : (y : Int).tdiv 2 = ((x / 2 ^ (j + 1) : Nat) : Int) := by rw [← hh, Int.tdiv_eq_ediv_of_nonneg (by omega)]; omega
      have hzl : x / 2 ^ (j + 1) < 256 := Nat.lt_of_le_of_lt (Nat.div_le_self _ _) hlt
      have e5w : IntKind.i64.wrap ((x / 2 ^ (j + 1) : Nat) : Int) = ((x / 2 ^ (j + 1) : Nat) : Int) := IntWalk.i64_in _ (by omega)
      obtain ⟨z, hz⟩ : ∃ z, x / 2 ^ (j + 1) = z := ⟨_, rfl⟩
      rw [hz] at e5 e5w
      have e5' : (y : Int) / 2 = (z : Int) := by rw [← e5, Int.tdiv_eq_ediv_of_nonneg (by omega)]
      have HZ := Lib.hid hz
      clear hz hh hzl
      go_wp2
      go_round
      case rel => exact ⟨j + 1, by omega, by go_num, by rw [HZ.out]⟩
      case measure => simp [intOf]; omega
    · have e : j = m := by omega
      subst e
      have E6 := Lib.hid (show ((x / 2 ^ j : Nat) : Int) % 2 = (RES : Int) by rw [← HRES.out]; omega)
      generalize x / 2 ^ j = y at *
      clear hh
      go_wp2
      go_ret
      exact ⟨by show Ending.returned (.int .i64 ((y : Int) % 2)) = _; rw [E6.out], rfl⟩
/-- the small letters -/
def smalls : List Nat := [48, 49, 50, 51, 52, 53, 54, 55, 56, 57, 97, 98, 99, 100, 101, 102, 103, 104, 106, 107, 109, 110, 112, 113, 114, 115, 116, 118, 119, 120, 121, 122]
def smallsB : ByteArray := ⟨#[48, 49, 50, 51, 52, 53, 54, 55, 56, 57, 97, 98, 99, 100, 101, 102, 103, 104, 106, 107, 109, 110, 112, 113, 114, 115, 116, 118, 119, 120, 121, 122]⟩
theorem smalls_at (n : Nat) (h : n < 32) (w : World) : (Instr.index 9 (.string smallsB) (.int .i64 n)).run Tryd.prog w = .ok (.int .u8 (smalls.getD n 0 : Nat)) w := by
  rw [idx_str smallsB n n rfl (by show n < 32; exact h) w]
  have : ∀ n : Nat, ∀ h : n < 32, (smallsB[n]'(by show n < 32; exact h)).toNat = smalls.getD n 0 := by decide +kernel
  rw [this n h]
def hitB (c n : Nat) : Bool := letter n == c || smalls.getD n 0 == c
theorem hit_num : ∀ c < 256, ∀ n < 32, hitB c n = true → num c = n := by decide +kernel
theorem miss_num : ∀ c < 256, (∀ n < 32, hitB c n = false) → num c = if c = 111 ∨ c = 79 then 0 else if c = 105 ∨ c = 73 ∨ c = 108 ∨ c = 76 then 1 else if c = 45 then 32 else 33 := by decide +kernel
set_option maxHeartbeats 1000000 in
theorem letterR_any (c : Nat) (hc : c < 256) (w : World) : Calls Tryd.prog 44 #[.int .u8 c] w fun e w' => e = .returned (.int .i64 (num c : Nat)) ∧ w' = w := by
  have hh := hit_num c hc
  have hm := miss_num c hc
  obtain ⟨R, hR⟩ : ∃ R, num c = R := ⟨_, rfl⟩
  rw [hR] at hm ⊢
  have HH := Lib.hid hh; have HM := Lib.hid hm; have HR := Lib.hid hR
  have hA := letters_at; have hB := smalls_at
  unfold lettersB at hA
  unfold smallsB at hB
  have HA := Lib.hid hA; have HB := Lib.hid hB
  clear hh hm hR hA hB
  go_enter Tryd.func44, Tryd.ntmps44
  go_wp2
  go_loop [5] (fun n => ∃ k : Nat, k ≤ 32 ∧ n = .int .i64 k ∧ RowKit.Hid (∀ j < k, hitB c j = false)) (fun n => 32 - (intOf n).toNat)
  case atStart => exact ⟨0, by omega, rfl, Lib.hid (fun j hj => by omega)⟩
  case round =>
    obtain ⟨k, hk, rfl, hno⟩ := hrel
    by_cases hk32 : k < 32
    · have i1 : (k : Int) < 32 := by omega
      have i0 : (0 : Int) ≤ (k : Int) := by omega
      have ha := HA.out k hk32
      have hb := HB.out k hk32
      have hhit := HH.out k hk32
      rw [HR.out] at hhit
      unfold hitB at hhit
      have hno2 : hitB c k = false → ∀ j < k + 1, hitB c j = false := fun h j hj => by
        by_cases e : j = k
        · subst e; exact h
        · exact hno.out j (by omega)
      unfold hitB at hno2
      generalize letter k = a at *
      generalize smalls.getD k 0 = b at *
      have HN := Lib.hid hno2; have HHI := Lib.hid hhit
      clear hno2 hhit hno HM
      by_cases c1 : a = c
      · subst c1
        have hr := HHI.out (by simp)
        subst hr
        have e1 : ((a : Int) == (a : Int)) = true := by simp
        go_wp2
        go_ret
        exact ⟨rfl, rfl⟩
      · have e1 : ((a : Int) == (c : Int)) = false := by simp; omega
        by_cases c2 : b = c
        · subst c2
          have hr := HHI.out (by simp)
          subst hr
          have e2 : ((b : Int) == (b : Int)) = true := by simp
          go_wp2
          go_ret
          exact ⟨rfl, rfl⟩
        · have e2 : ((b : Int) == (c : Int)) = false := by simp; omega
          have hn := HN.out (by simp [c1, c2])
          have HN2 := Lib.hid hn
          clear hn
          go_wp2
          go_round
          case rel => exact ⟨k + 1, by omega, by go_num, HN2⟩
          case measure => simp [intOf]; omega
    · have e : k = 32 := by omega
      subst e
      have hm := HM.out hno.out
      clear HA HB HH HR HM hno
      by_cases c1 : c = 111
      · subst c1
        rw [if_pos (by decide)] at hm
        subst hm
        go_wp2
        go_ret
        exact ⟨rfl, rfl⟩
      by_cases c2 : c = 79
      · subst c2
        rw [if_pos (by decide)] at hm
        subst hm
        go_wp2
        go_ret
        exact ⟨rfl, rfl⟩
      rw [if_neg (by omega)] at hm
      have f1 : ((c : Int) == 111) = false := by simp; omega
      have f2 : ((c : Int) == 79) = false := by simp; omega
      by_cases c3 : c = 105
      · subst c3
        rw [if_pos (by decide)] at hm
        subst hm
        go_wp2
        go_ret
        exact ⟨rfl, rfl⟩
      by_cases c4 : c = 73
      · subst c4
        rw [if_pos (by decide)] at hm
        subst hm
        go_wp2
        go_ret
        exact ⟨rfl, rfl⟩
      by_cases c5 : c = 108
      · subst c5
        rw [if_pos (by decide)] at hm
        subst hm
        go_wp2
        go_ret
        exact ⟨rfl, rfl⟩
      by_cases c6 : c = 76
      · subst c6
        rw [if_pos (by decide)] at hm
        subst hm
        go_wp2
        go_ret
        exact ⟨rfl, rfl⟩
      rw [if_neg (by omega)] at hm
      have f3 : ((c : Int) == 105) = false := by simp; omega
      have f4 : ((c : Int) == 73) = false := by simp; omega
      have f5 : ((c : Int) == 108) = false := by simp; omega
      have f6 : ((c : Int) == 76) = false := by simp; omega
      by_cases c7 : c = 45
      · subst c7
        rw [if_pos rfl] at hm
        subst hm
        go_wp2
        go_ret
        exact ⟨rfl, rfl⟩
      · rw [if_neg c7] at hm
        have f7 : ((c : Int) == 45) = false := by simp; omega
        subst hm
        go_wp2
        go_ret
        exact ⟨rfl, rfl⟩
end Sl
end Go.Proofs.YtdfdjampodkpgaaDoor
end

/-! SpellRef2 -/
section
/- Spelling: the document's: a text spelled, bit by bit; great letters as small ones. -/
set_option linter.unusedSimpArgs false
set_option linter.unusedVariables false
namespace Go.Proofs.YtdfdjampodkpgaaDoor
open Go.RowKit
namespace Sl
open Bt
theorem letter_cut : ∀ x < 32, lettersB.extract x (x + 1) = sB [letter x] := by decide +kernel
theorem slice_letter (x : Nat) (h : x < 32) (w : World) : (Instr.slice 9 (.string lettersB) (some (.int .i64 (x : Int))) (some (.int .i64 ((x : Int) + 1))) none).run Tryd.prog w = .ok (.string (sB [letter x])) w := by
  have hz : lettersB.size = 32 := rfl
  have := run_slice_string (P := Tryd.prog) (w := w) 9 lettersB .i64 .i64 (x : Int) ((x : Int) + 1) Tryd.underlying9 (by omega) (by omega) (by rw [hz]; omega)
  rw [this]
  have e1 : ((x : Int) + 1).toNat = x + 1 := by omega
  rw [e1, Int.toNat_natCast, letter_cut x h]
theorem add_sB (a b : List Nat) (h : a.length + b.length ≤ 100000000) (w : World) : (Op.stringOp .add (sB a) (sB b)).run Tryd.prog w = .ok (.string (sB (a ++ b))) w := by
  have := run_string_add_sum (P := Tryd.prog) w (sB a) (sB b) (by rw [sB_size, sB_size]; omega)
  rw [sB_app] at this
  exact this
set_option maxRecDepth 100000 in
set_option maxHeartbeats 4000000 in
theorem spelled_any (s : ByteArray) (hs : s.size ≤ 1100000) (w : World) : Calls Tryd.prog 33 #[.string s] w fun e w' => e = .returned (.string (sB (rawF (nt s)))) ∧ Below w.heap.size w w' := by
  have hba := fun i hi w => bitAt_any s (by omega) i hi w
  have hfl := fives_len (nt s)
  have hout : ∀ i, 8 * s.size ≤ i → bitL 8 (nt s) i = 0 := fun i hi => bitL_out (by omega) _ _ (by rw [nt_len]; exact hi)
  have hraw : rawF (nt s) = (grp (bitL 8 (nt s)) 5 (fit s.size)).map letter := by unfold rawF fives; rw [nt_len]
  rw [hraw]
  have hblt := bitL_lt 8 (nt s)
  generalize bitL 8 (nt s) = f at *
  have HBA := Lib.hid hba
  have HOUT := Lib.hid hout
  have HLT := Lib.hid hblt
  obtain ⟨RES, hRES⟩ : ∃ R, sB ((grp f 5 (fit s.size)).map letter) = R := ⟨_, rfl⟩
  rw [hRES]
  have HRES := Lib.hid hRES
  have hsl := slice_letter
  unfold lettersB at hsl
  have HSL := Lib.hid hsl
  have hlen8 : IntKind.i64.wrap (8 * (s.size : Int)) = 8 * (s.size : Int) := IntWalk.i64_in _ (by omega)
  have hle : (s.size : Int) ≤ 1100000 := by omega
  clear hba hout hblt hRES hraw hfl hsl
  go_enter Tryd.func33, Tryd.ntmps33
  go_wp2
  go_loopw [4, 5] (fun o fr wr => ∃ j : Nat, j ≤ fit s.size ∧ fr = .int .i64 ((5 * j : Nat) : Int) ∧ o = .string (sB ((grp f 5 j).map letter)) ∧ Below w.heap.size w wr) (fun _ fr _ => 8 * s.size + 5 - (intOf fr).toNat)
  case atStart => exact ⟨0, Nat.zero_le _, rfl, rfl, br w⟩
  case round =>
    obtain ⟨j, hj, rfl, rfl, hbw⟩ := hrel
    have hfit : fit s.size = (8 * s.size + 4) / 5 := rfl
    have hjc : ((5 * j : Nat) : Int) = 5 * (j : Int) := by omega
    rw [hjc]
    by_cases hlt : 5 * j < 8 * s.size
    · have i1 : 5 * (j : Int) < 8 * (s.size : Int) := by omega
      have hgs := grp_succ f 5 j
      have hgl := grp_len f 5 j
      have hj1 : j + 1 ≤ fit s.size := by omega
      have HJ1 := Lib.hid hj1
      generalize grp f 5 j = G at *
      have HGS := Lib.hid hgs
      have hgle : G.length ≤ 2000000 := by omega
      have HBW := Lib.hid hbw
      obtain ⟨T, hT⟩ : ∃ T, sB (G.map letter) = T := ⟨_, rfl⟩
      rw [hT]
      have HT := Lib.hid hT
      clear hgs hbw hT hfit hj hj1 hjc hgl
      go_wp2_with fail
      go_loopw [6, 7] (fun n k wy => ∃ q : Nat, q ≤ 5 ∧ k = .int .i64 q ∧ n = .int .i64 (val f (5 * j) q : Nat) ∧ Below w.heap.size w wy) (fun _ k _ => 5 - (intOf k).toNat)
      case atStart => exact ⟨0, by omega, rfl, rfl, HBW.out⟩
      case round =>
        obtain ⟨q, hq, rfl, rfl, hby⟩ := hrel
        have HBY := Lib.hid hby
        clear hby HBW
        by_cases hq5 : q < 5
        · have hv : val f (5 * j) (q + 1) = 2 * val f (5 * j) q + f (5 * j + q) := rfl
          have hvl : val f (5 * j) q < 32 := Nat.lt_of_lt_of_le (val_lt HLT.out _ _) (Nat.le_trans (Nat.pow_le_pow_right (by omega) (show q ≤ 5 by omega)) (by decide))
          have hfb := HLT.out (5 * j + q)
          obtain ⟨Z, hZ⟩ : ∃ Z, val f (5 * j) (q + 1) = Z := ⟨_, rfl⟩
          rw [hZ] at hv
          have HZ := Lib.hid hZ
          generalize val f (5 * j) q = V at *
          have i2 : (q : Int) < 5 := by omega
          have w1 : IntKind.i64.wrap ((V : Int) * 2) = (V : Int) * 2 := IntWalk.i64_in _ (by omega)
          have w2 : IntKind.i64.wrap (5 * (j : Int) + (q : Int)) = 5 * (j : Int) + (q : Int) := IntWalk.i64_in _ (by omega)
          by_cases hin : 5 * j + q < 8 * s.size
          · have i3 : 5 * (j : Int) + (q : Int) < 8 * (s.size : Int) := by omega
            have hc := fun w => HBA.out (5 * j + q) hin w
            have hcast : ((5 * j + q : Nat) : Int) = 5 * (j : Int) + (q : Int) := by omega
            rw [hcast] at hc
            generalize f (5 * j + q) = b at *
            have w3 : IntKind.i64.wrap ((V : Int) * 2 + (b : Int)) = (V : Int) * 2 + (b : Int) := IntWalk.i64_in _ (by omega)
            have HC := Lib.hid hc
            have HV := Lib.hid (show (V : Int) * 2 + (b : Int) = (Z : Int) by omega)
            clear hc hZ hv hcast hin
            go_wp2_with (first | (go_at_call 67; (with_reducible refine (HC.out _).mono ?_); rintro en w4 ⟨rfl, rfl⟩))
            go_roundw
            case rel => exact ⟨q + 1, by omega, by go_num, by rw [HZ.out, HV.out], HBY.out⟩
            case measure => simp [intOf]; omega
          · have i3 : ¬ 5 * (j : Int) + (q : Int) < 8 * (s.size : Int) := by omega
            have h0 := HOUT.out (5 * j + q) (by omega)
            have HV := Lib.hid (show (V : Int) * 2 = (Z : Int) by omega)
            clear hZ hv h0 hin hfb
            go_wp2
            go_roundw
            case rel => exact ⟨q + 1, by omega, by go_num, by rw [HZ.out, HV.out], HBY.out⟩
            case measure => simp [intOf]; omega
        · have e : q = 5 := by omega
          subst e
          have hvl : val f (5 * j) 5 < 32 := val_lt HLT.out _ _
          have hgs := HGS.out
          generalize val f (5 * j) 5 = V at *
          have hs1 := fun w => HSL.out V hvl w
          have hc1 := fun w => add_sB (G.map letter) [letter V] (by simp; omega) w
          rw [HT.out] at hc1
          have hgs2 : sB ((grp f 5 (j + 1)).map letter) = sB (G.map letter ++ [letter V]) := by rw [hgs, List.map_append]; rfl
          have HG2 := Lib.hid hgs2
          generalize sB (G.map letter ++ [letter V]) = T2 at *
          generalize sB [letter V] = C2 at *
          have w4 : IntKind.i64.wrap ((V : Int) + 1) = (V : Int) + 1 := IntWalk.i64_in _ (by omega)
          have w5 : IntKind.i64.wrap (5 * (j : Int) + 5) = 5 * (j : Int) + 5 := IntWalk.i64_in _ (by omega)
          have hv1 : (V : Int) + 1 ≤ 32 := by omega
          clear hgs hgs2 HSL
          go_wp2
          go_roundw
          case rel => exact ⟨j + 1, HJ1.out, by simp; omega, by rw [HG2.out], HBY.out⟩
          case measure => simp [intOf]; omega
    · have e : j = fit s.size := by omega
      subst e
      have i1 : ¬ 5 * ((fit s.size : Nat) : Int) < 8 * (s.size : Int) := by omega
      have HBW := Lib.hid hbw
      rw [HRES.out]
      clear hbw hfit
      generalize fit s.size = m at *
      go_wp2
      go_ret
      exact ⟨rfl, HBW.out⟩
theorem small_i (x : Nat) (h : x < 256) : small x < 256 := small_lt x h
end Sl
end Go.Proofs.YtdfdjampodkpgaaDoor
end

/-! SpellRef3 -/
section
/- Spelling: the document's: letters read, bit by bit. -/
set_option linter.unusedSimpArgs false
set_option linter.unusedVariables false
namespace Go.Proofs.YtdfdjampodkpgaaDoor
open Go.RowKit
namespace Sl
open Bt
def bitsN (y : Nat) : List Nat := (List.range 5).map (fun j => y / (16 / 2 ^ j) % 2)
def bitsL (xs : List Nat) : List Nat := xs.flatMap bitsN
theorem bitsN_len (y : Nat) : (bitsN y).length = 5 := rfl
theorem bitsL_len : ∀ xs : List Nat, (bitsL xs).length = 5 * xs.length
  | [] => rfl
  | x :: xs => by
    have := bitsL_len xs
    unfold bitsL at this ⊢
    rw [List.flatMap_cons, List.length_append, this, bitsN_len, List.length_cons]; omega
theorem bitsL_snoc (xs : List Nat) (y : Nat) : bitsL (xs ++ [y]) = bitsL xs ++ bitsN y := by unfold bitsL; rw [List.flatMap_append]; simp
theorem bitsN_take (y j : Nat) (h : j < 5) : (bitsN y).take (j + 1) = (bitsN y).take j ++ [y / (16 / 2 ^ j) % 2] := by
  rw [List.take_succ_eq_append_getElem (by rw [bitsN_len]; exact h)]
  congr 2
  unfold bitsN
  rw [List.getElem_map, List.getElem_range]
theorem bitsN_at (y j : Nat) (h : j < 5) : (bitsN y).getD j 0 = Bt.bt 5 y j := by
  match j, h with
  | 0, _ => rfl
  | 1, _ => rfl
  | 2, _ => rfl
  | 3, _ => rfl
  | 4, _ => rfl
theorem bitL_cons (x : Nat) (xs : List Nat) (i : Nat) : bitL 5 (x :: xs) (i + 5) = bitL 5 xs i := by
  unfold bitL
  have h1 : (i + 5) / 5 = i / 5 + 1 := by omega
  have h2 : (i + 5) % 5 = i % 5 := by omega
  rw [h1, h2]
  rfl
theorem bitsL_at : ∀ (xs : List Nat) (i : Nat), i < 5 * xs.length → (bitsL xs).getD i 0 = bitL 5 xs i
  | [], i, h => by simp at h
  | x :: xs, i, h => by
    rw [List.length_cons] at h
    by_cases h5 : i < 5
    · have e : (bitsL (x :: xs)).getD i 0 = (bitsN x).getD i 0 := by
        unfold bitsL
        rw [List.flatMap_cons]
        simp only [List.getD]
        rw [List.getElem?_append_left (by rw [bitsN_len]; exact h5)]
      rw [e, bitsN_at x i h5]
      unfold bitL
      rw [Nat.div_eq_of_lt h5, Nat.mod_eq_of_lt h5]
      rfl
    · obtain ⟨k, rfl⟩ : ∃ k, i = k + 5 := ⟨i - 5, by omega⟩
      rw [bitL_cons, ← bitsL_at xs k (by omega)]
      unfold bitsL
      rw [List.flatMap_cons]
      simp only [List.getD]
      rw [List.getElem?_append_right (by rw [bitsN_len]; omega), bitsN_len, Nat.add_sub_cancel]
set_option maxRecDepth 100000 in
set_option maxHeartbeats 8000000 in
theorem unspelled_any (s : ByteArray) (hs : s.size ≤ 1100000) (w : World) : Calls Tryd.prog 18 #[.string s] w (RQ (readF (nt s)) w) := by
  have hnl := nt_len s
  have hix : ∀ k (hk : k < s.size) (W : World), (Instr.index 9 (.string s) (.int .i64 (k : Int))).run Tryd.prog W = .ok (.int .u8 ((nt s).getD k 0 : Nat)) W := fun k hk W => by
    rw [idx_str s (k : Int) k rfl hk W, getD_lt (by rw [nt_len]; exact hk)]
    unfold nt
    rw [List.getElem_map]
    rfl
  have hlt := nt_lt s
  have HIX := Lib.hid hix; have HN := Lib.hid hlt
  clear hix hlt
  generalize nt s = N at *
  have HNL := Lib.hid hnl
  obtain ⟨R, hR⟩ : ∃ R, readF N = R := ⟨_, rfl⟩
  rw [hR]
  have HR := Lib.hid hR
  have hle : (s.size : Int) ≤ 1100000 := by omega
  clear hR hnl
  obtain ⟨RL, RE⟩ := R
  show Calls Tryd.prog 18 #[.string s] w fun e w' => e = .returned (.tuple #[.string (sB RL), .int .i64 RE]) ∧ Below w.heap.size w w'
  obtain ⟨RES, hRES⟩ : ∃ R, sB RL = R := ⟨_, rfl⟩
  rw [hRES]
  have HRES := Lib.hid hRES
  clear hRES
  go_enter Tryd.func18, Tryd.ntmps18
  go_wp2
  go_loopw [4, 5, 6] (fun v m i wr => ∃ (k : Nat) (xs : List Nat), k ≤ s.size ∧ i = .int .i64 k ∧ m = .int .i64 xs.length ∧ RowKit.Hid (nums (N.take k) = some xs) ∧ ROwn elZ wr w.heap.size v (zs (bitsL xs)) ∧ Below w.heap.size w wr) (fun _ _ i _ => s.size - (intOf i).toNat)
  case atStart => exact ⟨0, [], Nat.zero_le _, rfl, rfl, Lib.hid rfl, (ROwn.nil _ _ : ROwn elZ w w.heap.size (.slice none 0 0) []), br w⟩
  case round =>
    obtain ⟨k, xs, hk, rfl, rfl, hnum, hown, hbw⟩ := hrel
    have HBW := Lib.hid hbw
    clear hbw
    by_cases hks : k < s.size
    · have hkN : k < N.length := by rw [HNL.out]; exact hks
      have i1 : (k : Int) < (s.size : Int) := by omega
      have i0 : (0 : Int) ≤ (k : Int) := by omega
      have hx := HN.out _ (List.getElem_mem hkN)
      have hixk := fun W => HIX.out k hks W
      rw [getD_lt hkN] at hixk
      have hnt := nums_take hkN
      rw [hnum.out] at hnt
      have hlt := fun W => letterR_any N[k] hx W
      have hnle := num_le _ hx
      have hxs := nums_len hnum.out
      rw [List.length_take] at hxs
      generalize N[k] = x at *
      have HNA := Lib.hid hlt
      have HON := Lib.hid hown
      clear hlt hown
      obtain ⟨y, hy⟩ : ∃ y, num x = y := ⟨_, rfl⟩
      rw [hy] at hnt HNA hnle
      clear hy
      by_cases c1 : y = 33
      · subst c1
        rw [if_pos rfl] at hnt
        have hrr := readF_none (nums_none (k + 1) hnt)
        rw [HR.out] at hrr
        injection hrr with hr1 hr2
        subst hr1 hr2
        clear hnt
        go_wp2_with (first | (go_at_call 44; (with_reducible refine (HNA.out _).mono ?_); rintro en w2 ⟨rfl, rfl⟩))
        go_ret2
        exact ⟨by rw [← HRES.out]; rfl, HBW.out⟩
      · rw [if_neg c1] at hnt
        have c1i : ((y : Int) == 33) = false := by simp; omega
        by_cases c2 : y = 32
        · subst c2
          rw [if_pos rfl] at hnt
          have HNT := Lib.hid hnt
          clear hnt
          go_wp2_with (first | (go_at_call 44; (with_reducible refine (HNA.out _).mono ?_); rintro en w2 ⟨rfl, rfl⟩))
          go_roundw
          case rel => exact ⟨k + 1, xs, by omega, by go_num, rfl, HNT, HON.out, HBW.out⟩
          case measure => simp [intOf]; omega
        · rw [if_neg c2] at hnt
          simp only [Option.map_some] at hnt
          have HNT := Lib.hid hnt
          have c2i : (y : Int) < 32 := by omega
          have hxl : xs.length ≤ 1100000 := by omega
          have HXL := Lib.hid hxl
          obtain ⟨B, hB⟩ : ∃ B, bitsL xs = B := ⟨_, rfl⟩
          rw [hB] at HON
          have hBl : B.length ≤ 5500000 := by rw [← hB, bitsL_len]; omega
          have HB := Lib.hid hB
          have HX1 := Lib.hid (show (xs ++ [y]).length = xs.length + 1 by simp)
          have hxi : (xs.length : Int) ≤ 1100000 := by omega
          clear hnt hB c1 c2
          generalize xs.length = X at *
          have HOB := Lib.hid (show ROwn elZ wr w.heap.size _ (zs (B ++ (bitsN y).take 0)) by rw [List.take_zero, List.append_nil]; exact HON.out)
          clear HON
          go_wp2_with (first | (go_at_call 44; (with_reducible refine (HNA.out _).mono ?_); rintro en w2 ⟨rfl, rfl⟩))
          go_loopw [4, 8] (fun v wi wy => ∃ j : Nat, j ≤ 5 ∧ wi = .int .i64 (16 / 2 ^ j : Nat) ∧ ROwn elZ wy w.heap.size v (zs (B ++ (bitsN y).take j)) ∧ Below w.heap.size w wy) (fun _ wi _ => (intOf wi).toNat)
          case atStart => exact ⟨0, by omega, rfl, HOB.out, HBW.out⟩
          case round =>
            obtain ⟨j, hj, rfl, hown, hby⟩ := hrel
            have HBY := Lib.hid hby
            clear hby HBW HOB HNA hixk
            by_cases hj5 : j < 5
            · have hh := half 16 j
              have hpos : 1 ≤ 16 / 2 ^ j := by
                rcases (show j = 0 ∨ j = 1 ∨ j = 2 ∨ j = 3 ∨ j = 4 by omega) with rfl | rfl | rfl | rfl | rfl
                all_goals decide
              have hWle : 16 / 2 ^ j ≤ 16 := Nat.div_le_self _ _
              have htk := bitsN_take y j hj5
              obtain ⟨W2, hW2⟩ : ∃ W2, 16 / 2 ^ (j + 1) = W2 := ⟨_, rfl⟩
              rw [hW2] at hh
              have HW2 := Lib.hid hW2
              generalize 16 / 2 ^ j = W at *
              obtain ⟨z, hz⟩ : ∃ z, y / W = z := ⟨_, rfl⟩
              obtain ⟨b, hb⟩ : ∃ b, z % 2 = b := ⟨_, rfl⟩
              rw [hz, hb] at htk
              have hz32 : z ≤ y := by rw [← hz]; exact Nat.div_le_self _ _
              have hb2 : b < 2 := by rw [← hb]; exact Nat.mod_lt _ (by omega)
              have e1 : (y : Int).tdiv (W : Int) = (z : Int) := by rw [← hz, Int.tdiv_eq_ediv_of_nonneg (by omega)]; simp
              have e1' : (y : Int) / (W : Int) = (z : Int) := by rw [← hz]; simp
              have e2 : (z : Int).tmod 2 = (b : Int) := by rw [← hb, Int.tmod_eq_emod_of_nonneg (by omega)]; omega
              have e2' : (z : Int) % 2 = (b : Int) := by omega
              have e3 : (W : Int).tdiv 2 = (W2 : Int) := by rw [Int.tdiv_eq_ediv_of_nonneg (by omega)]; omega
              have e3' : (W : Int) / 2 = (W2 : Int) := by omega
              have f1 : IntKind.i64.wrap (z : Int) = (z : Int) := IntWalk.i64_in _ (by omega)
              have f2 : IntKind.i64.wrap (b : Int) = (b : Int) := IntWalk.i64_in _ (by omega)
              have f3 : IntKind.i64.wrap (W2 : Int) = (W2 : Int) := IntWalk.i64_in _ (by omega)
              have g1 : (1 : Int) ≤ (W : Int) := by omega
              have g2 : ((W : Int) == 0) = false := by simp; omega
              have hlen : (B ++ (bitsN y).take j).length ≤ 5500005 := by rw [List.length_append, List.length_take, bitsN_len]; omega
              have HTK := Lib.hid (show zs (B ++ (bitsN y).take (j + 1)) = zs (B ++ (bitsN y).take j) ++ [(b : Int)] by rw [htk, ← List.append_assoc]; unfold zs; rw [List.map_append]; rfl)
              have HON := Lib.hid hown
              have HLT := Lib.hid (fun W : World => rd_lit elZ [(b : Int)] W 3 (0, 0) W.heap.size rfl (by simp [maxLen]))
              have hzl := zs_len (B ++ (bitsN y).take j)
              obtain ⟨M, hM⟩ : ∃ M, B ++ (bitsN y).take j = M := ⟨_, rfl⟩
              rw [hM] at hown HON HTK hlen hzl
              obtain ⟨x6, c6, hsh⟩ := own_shapeZ hown
              subst hsh
              have HZL := Lib.hid hzl
              have hWW : W2 < W := by omega
              clear hown hM htk hz hb hzl hh hW2 hz32
              go_wp2_with (at_builtin; refine appE elZ rfl (.tmp 35) (.tmp 40) rfl w.heap.size _ _ rfl (HON.out.next ((br _).alloc (Nat.le_refl _) _)) _ [(b : Int)] rfl (HLT.out wr) (by rw [HZL.out]; show M.length + 1 ≤ _; unfold maxLen; omega) (by rw [HZL.out]; show (M.length + 1) * 8 ≤ _; omega) (by have := HBY.out.size; simp; omega) ?_; intro v5 w5 hown5 hb5 hfar5; have HO5 := Lib.hid hown5; have HB5 := Lib.hid hb5; clear hown5 hb5 hfar5)
              go_roundw
              case rel => exact ⟨j + 1, by omega, by rw [HW2.out], by rw [HTK.out]; exact HO5.out, (HBY.out.alloc HBY.out.size _).trans HB5.out⟩
              case measure => simp [intOf]; omega
            · have e : j = 5 := by omega
              subst e
              have htk : (bitsN y).take 5 = bitsN y := by rw [List.take_of_length_le]; rw [bitsN_len]; exact Nat.le_refl _
              rw [htk] at hown
              have HON := Lib.hid (show ROwn elZ wr w.heap.size _ (zs (bitsL (xs ++ [y]))) by rw [bitsL_snoc, HB.out]; exact hown)
              have h0 : (16 / 2 ^ 5 : Nat) = 0 := by decide
              rw [h0]
              clear hown htk h0
              go_wp2
              go_roundw
              case rel => exact ⟨k + 1, xs ++ [y], by omega, by go_num, by rw [HX1.out]; simp, HNT, HON.out, HBY.out⟩
              case measure => simp [intOf]; omega
    · have e : k = s.size := by omega
      subst e
      have hall : N.take s.size = N := by rw [← HNL.out]; exact List.take_length
      have hn := hnum.out
      rw [hall] at hn
      have hrr := readF_some hn
      rw [HR.out] at hrr
      have hxl := nums_len hn
      rw [HNL.out] at hxl
      obtain ⟨a6, c6, hsh⟩ := own_shapeZ hown
      rw [zs_len, bitsL_len] at hsh
      subst hsh
      have hcell : ∀ i, i < 5 * xs.length → ∃ g off, a6 = some ⟨g, off, none⟩ ∧ g < wr.heap.size ∧ wr.cell? ⟨g, off + i, none⟩ = some (.int .i64 (bitL 5 xs i : Nat)) := fun i hi => by
        obtain ⟨a', cap', e, _, _, h3⟩ := hown.rd
        injection e with e1 e2 e3
        subst e1
        obtain ⟨g, off, rfl, hg, hc⟩ := h3 (by rw [zs_len, bitsL_len]; omega)
        have hi' : i < (bitsL xs).length := by rw [bitsL_len]; exact hi
        refine ⟨g, off, rfl, hg, ?_⟩
        have := hc i (by rw [zs_len]; exact hi') 0 _ rfl
        simp only [Nat.mul_one, Nat.add_zero, zs, List.getElem_map] at this
        rw [this, ← bitsL_at xs i hi, getD_lt hi']
      have HCELL := Lib.hid hcell
      have hfl := bitL_lt 5 xs
      generalize bitL 5 xs = f at *
      obtain ⟨m, hm⟩ : ∃ m, xs.length = m := ⟨_, rfl⟩
      rw [hm] at hrr hxl HCELL ⊢
      obtain ⟨q, hq⟩ : ∃ q, 5 * m / 8 = q := ⟨_, rfl⟩
      obtain ⟨r, hr⟩ : ∃ r, 5 * m % 8 = r := ⟨_, rfl⟩
      have hqr : 8 * q + r = 5 * m := by omega
      rw [hq, hr] at hrr
      have e8 : (m : Int).tmod 8 = ((m % 8 : Nat) : Int) := by rw [Int.tmod_eq_emod_of_nonneg (by omega)]; omega
      have hm8 : m % 8 < 8 := Nat.mod_lt _ (by omega)
      have hmw : IntKind.i64.wrap ((m % 8 : Nat) : Int) = ((m % 8 : Nat) : Int) := IntWalk.i64_in _ (by omega)
      have e8' : (m : Int) % 8 = ((m % 8 : Nat) : Int) := by omega
      generalize m % 8 = d at *
      obtain ⟨Lb, hLb⟩ : ∃ Lb, 5 * m = Lb := ⟨_, rfl⟩
      rw [hLb] at hqr HCELL ⊢
      have e9 : (Lb : Int).tdiv 8 = (q : Int) := by rw [Int.tdiv_eq_ediv_of_nonneg (by omega)]; omega
      have e9' : (Lb : Int) / 8 = (q : Int) := by omega
      have e9w : IntKind.i64.wrap (q : Int) = (q : Int) := IntWalk.i64_in _ (by omega)
      have e10w : IntKind.i64.wrap (8 * (q : Int)) = 8 * (q : Int) := IntWalk.i64_in _ (by omega)
      have hLbi : (Lb : Int) ≤ 5500000 := by omega
      have HFL := Lib.hid hfl
      have HRR := Lib.hid hrr
      have HR8 := Lib.hid (show r < 8 by omega)
      clear hcell hown hn hall hnum hrr hfl hq hr hm hLb HN HNL HIX HR hxl
      by_cases hd : d = 1 ∨ d = 3 ∨ d = 6
      · have hrr := HRR.out
        rw [if_pos hd] at hrr
        injection hrr with hr1 hr2
        subst hr1 hr2
        rcases hd with rfl | rfl | rfl
        all_goals
          go_wp2
          go_ret2
          exact ⟨by rw [← HRES.out]; rfl, HBW.out⟩
      · have hrr := HRR.out
        rw [if_neg hd] at hrr
        have HRR2 := Lib.hid hrr
        have d1 : ((d : Int) == 1) = false := by simp; omega
        have d3 : ((d : Int) == 3) = false := by simp; omega
        have d6 : ((d : Int) == 6) = false := by simp; omega
        clear hrr hd HRR hm8
        have hrr := HRR2.out
        clear HRR2
        by_cases h120 : 120 < q
        · rw [if_pos h120] at hrr
          injection hrr with hr1 hr2
          subst hr1 hr2
          have hq1 : (120 : Int) < (q : Int) := by omega
          go_wp2
          go_ret2
          exact ⟨by rw [← HRES.out]; rfl, HBW.out⟩
        · rw [if_neg h120] at hrr
          have hq1 : ¬ (120 : Int) < (q : Int) := by omega
          have HRR := Lib.hid hrr
          have hq120 : (q : Int) ≤ 120 := by omega
          clear hrr h120
          go_wp2
          go_loopw [10] (fun i wy => ∃ p : Nat, 8 * q ≤ p ∧ p ≤ Lb ∧ i = .int .i64 p ∧ RowKit.Hid (∀ j, 8 * q ≤ j → j < p → f j = 0) ∧ wy = wr) (fun i _ => Lb - (intOf i).toNat)
          case atStart => exact ⟨8 * q, Nat.le_refl _, by omega, by simp, Lib.hid (fun j h1 h2 => by omega), rfl⟩
          case round =>
            obtain ⟨p, hp1, hp2, rfl, hz, rfl⟩ := hrel
            by_cases hpL : p < Lb
            · obtain ⟨g, off, rfl, hg, hc⟩ := HCELL.out p hpL
              have i1 : (p : Int) < (Lb : Int) := by omega
              have i0 : (0 : Int) ≤ (p : Int) := by omega
              have hb := HFL.out p
              obtain ⟨b, hbe⟩ : ∃ b, f p = b := ⟨_, rfl⟩
              rw [hbe] at hc hb
              by_cases hb1 : b = 1
              · subst hb1
                have hne : val f (8 * q) r ≠ 0 := fun h0 => by
                  have := val_zero_iff.1 h0 (p - 8 * q) (by omega)
                  rw [show 8 * q + (p - 8 * q) = p by omega, hbe] at this
                  omega
                have hrr := HRR.out
                rw [if_pos hne] at hrr
                injection hrr with hr1 hr2
                subst hr1 hr2
                clear hz HCELL hne
                go_wp2
                go_ret2
                exact ⟨by rw [← HRES.out]; rfl, HBW.out⟩
              · have hb0 : b = 0 := by omega
                subst hb0
                have hz2 := Lib.hid (show ∀ j, 8 * q ≤ j → j < p + 1 → f j = 0 from fun j h1 h2 => by
                  by_cases e : j = p
                  · subst e; exact hbe
                  · exact hz.out j h1 (by omega))
                clear hz hb1
                go_wp2
                go_roundw
                case rel => exact ⟨p + 1, by omega, by omega, by go_num, hz2, by trivial⟩
                case measure => simp [intOf]; omega
            · have e : Lb = p := by omega
              subst e
              have h0 : val f (8 * q) r = 0 := val_zero fun i hi => hz.out _ (by omega) (by have := HR8.out; omega)
              have hrr := HRR.out
              rw [if_neg (by rw [h0]; simp)] at hrr
              injection hrr with hr1 hr2
              subst hr1 hr2
              clear hz h0 HRR
              go_wp2
              go_loopw [11, 12] (fun o i wy => ∃ p : Nat, p ≤ q ∧ i = .int .i64 p ∧ o = .string (sB (grp f 8 p)) ∧ Below wr.heap.size wr wy) (fun _ i _ => q - (intOf i).toNat)
              case atStart => exact ⟨0, Nat.zero_le _, rfl, rfl, br _⟩
              case round =>
                obtain ⟨p, hp, rfl, rfl, hbw⟩ := hrel
                have HB1 := Lib.hid hbw
                clear hbw
                by_cases hpq : p < q
                · have i1 : (p : Int) < (q : Int) := by omega
                  have hgs := grp_succ f 8 p
                  have hgl := grp_len f 8 p
                  generalize grp f 8 p = G at *
                  have HGS := Lib.hid hgs
                  obtain ⟨T, hT⟩ : ∃ T, sB G = T := ⟨_, rfl⟩
                  rw [hT]
                  have HT := Lib.hid hT
                  clear hgs hT
                  go_wp2_with fail
                  go_loopw [13, 14] (fun n k wy => ∃ z : Nat, z ≤ 8 ∧ k = .int .i64 z ∧ n = .int .i64 (val f (8 * p) z : Nat) ∧ wy = wr) (fun _ k _ => 8 - (intOf k).toNat)
                  case atStart => exact ⟨0, by omega, rfl, rfl, rfl⟩
                  case round =>
                    obtain ⟨z, hz, rfl, rfl, rfl⟩ := hrel
                    by_cases hz8 : z < 8
                    · have hv : val f (8 * p) (z + 1) = 2 * val f (8 * p) z + f (8 * p + z) := rfl
                      have hvl : val f (8 * p) z < 256 := Nat.lt_of_lt_of_le (val_lt HFL.out _ _) (Nat.le_trans (Nat.pow_le_pow_right (by omega) hz) (by decide))
                      have hfb := HFL.out (8 * p + z)
                      obtain ⟨g, off, rfl, hg, hc⟩ := HCELL.out (8 * p + z) (by omega)
                      have hc2 := (HB1.out.cell (p := ⟨g, off + (8 * p + z), none⟩) hg).trans hc
                      obtain ⟨Z, hZ⟩ : ∃ Z, val f (8 * p) (z + 1) = Z := ⟨_, rfl⟩
                      rw [hZ] at hv
                      have HZ := Lib.hid hZ
                      generalize val f (8 * p) z = V at *
                      generalize f (8 * p + z) = b at *
                      have i2 : (z : Int) < 8 := by omega
                      obtain ⟨J, hJ⟩ : ∃ J, 8 * p + z = J := ⟨_, rfl⟩
                      have hJi : 8 * (p : Int) + (z : Int) = (J : Int) := by omega
                      rw [hJ] at hc2
                      have hJl : (J : Int) < (Lb : Int) := by omega
                      have hJ0 : (0 : Int) ≤ (J : Int) := by omega
                      have w0 : IntKind.i64.wrap (8 * (p : Int)) = 8 * (p : Int) := IntWalk.i64_in _ (by omega)
                      have w1 : IntKind.i64.wrap (2 * (V : Int)) = 2 * (V : Int) := IntWalk.i64_in _ (by omega)
                      have w2 : IntKind.i64.wrap (J : Int) = (J : Int) := IntWalk.i64_in _ (by omega)
                      have hVZ : 2 * (V : Int) + (b : Int) = (Z : Int) := by omega
                      have w3 : IntKind.i64.wrap (Z : Int) = (Z : Int) := IntWalk.i64_in _ (by omega)
                      clear hc hZ hv hJ HT
                      go_wp2
                      go_roundw
                      case rel => exact ⟨z + 1, by omega, by go_num, by rw [HZ.out], by trivial⟩
                      case measure => simp [intOf]; omega
                    · have e : z = 8 := by omega
                      subst e
                      have hvl : val f (8 * p) 8 < 256 := val_lt HFL.out _ _
                      have hgs := HGS.out
                      generalize val f (8 * p) 8 = V at *
                      have hone := fun w => oneR_any V hvl w
                      have hadd := fun w => add_sB G [V] (by rw [hgl]; simp; omega) w
                      rw [HT.out, ← hgs] at hadd
                      have HONE := Lib.hid hone
                      obtain ⟨T2, hT2⟩ : ∃ R, sB (grp f 8 (p + 1)) = R := ⟨_, rfl⟩
                      rw [hT2] at hadd
                      have HT2 := Lib.hid hT2
                      generalize sB [V] = C2 at *
                      clear hgs hT2 hone hz8
                      go_wp2_with fail
                      refine (HONE.out _).mono ?_
                      rintro en w3 ⟨rfl, b3⟩
                      have HB3 := Lib.hid (bt HB1.out b3)
                      clear b3
                      go_wp2
                      go_roundw
                      case rel => exact ⟨p + 1, by omega, by go_num, by rw [HT2.out], HB3.out⟩
                      case measure => simp [intOf]; omega
                · have e : p = q := by omega
                  subst e
                  rw [HRES.out]
                  go_wp2
                  go_ret2
                  exact ⟨rfl, HBW.out.trans (HB1.out.mono HBW.out.size)⟩
end Sl
end Go.Proofs.YtdfdjampodkpgaaDoor
end
