/- Spelling: the statements' walks: there and back; fair; loose. -/
import Derived.Test.YtkanlfgomfibdaaDoorSpellLaws
set_option linter.unusedSimpArgs false
set_option linter.unusedVariables false
namespace Go.Proofs.YtkanlfgomfibdaaDoor
open Go.RowKit
namespace Sl
open Bt
set_option maxRecDepth 100000 in
set_option maxHeartbeats 4000000 in
theorem back_walk (s : ByteArray) (hs : s.size ≤ maxLen) (w : World) (hT : Tab w) : Calls Tryd.prog 4 #[.string s] w (BoolQ true w) := by
  have C1 := Lib.hid (fun w => write_any s hs w)
  have CB := Lib.hid (fun w h => begun_any w h)
  have HT := Lib.hid hT
  clear hT
  unfold RQ at C1
  have e0 : sB [] = ⟨#[]⟩ := rfl
  by_cases h120 : 120 < s.size
  · rw [if_pos h120] at C1
    simp only [e0] at C1
    have HX := Lib.hid h120
    clear h120 e0
    go_enter Tryd.func4, Tryd.ntmps4
    go_wp2_with fail
    refine (C1.out _).mono ?_
    rintro en w1 ⟨rfl, h1⟩
    have H1 := Lib.hid h1
    clear h1
    go_wp2_with fail
    refine (CB.out _ (HT.out.below H1.out)).mono ?_
    rintro en w2 ⟨rfl, h2⟩
    have H2 := Lib.hid (bt H1.out h2)
    clear h2
    go_wp2
    go_ret
    exact ⟨by first | rfl | (simp; done), H2.out⟩
  · rw [if_neg h120] at C1
    have hb := back (nt_lt s) (by rw [nt_len]; omega)
    have hl := rawF_len (nt s)
    rw [nt_len] at hl
    have C2 := Lib.hid (fun w h => read_any (sB (rawF (nt s))) (by rw [sB_size, hl]; unfold fit; omega) w h)
    unfold RQ at C2
    rw [nt_sB (rawF_lt (nt s)), hb] at C2
    simp only [sB_nt] at C2
    have hsz : (sB (rawF (nt s))).size = fit s.size := by rw [sB_size, hl]
    simp only at C1
    generalize sB (rawF (nt s)) = T at *
    obtain ⟨m, hm⟩ : ∃ m, fit s.size = m := ⟨_, rfl⟩
    have g1 : 8 * (s.size : Int) ≤ 5 * (m : Int) := by rw [← hm]; unfold fit; omega
    have g2 : 5 * (m : Int) < 8 * (s.size : Int) + 5 := by rw [← hm]; unfold fit; omega
    have g3 : m ≤ 200 := by rw [← hm]; unfold fit; omega
    rw [hm] at hsz
    have w1 : IntKind.i64.wrap (5 * (m : Int)) = 5 * (m : Int) := IntWalk.i64_in _ (by omega)
    have w2 : IntKind.i64.wrap (8 * (s.size : Int)) = 8 * (s.size : Int) := IntWalk.i64_in _ (by omega)
    have w3 : IntKind.i64.wrap (8 * (s.size : Int) + 5) = 8 * (s.size : Int) + 5 := IntWalk.i64_in _ (by omega)
    have es := str_self s
    have d1 : decide (5 * (m : Int) ≥ 8 * (s.size : Int)) = true := decide_eq_true g1
    have d2 : decide (5 * (m : Int) < 8 * (s.size : Int) + 5) = true := decide_eq_true g2
    have HX := Lib.hid h120
    clear h120 hb hl hm e0 g3
    go_enter Tryd.func4, Tryd.ntmps4
    go_wp2_with fail
    refine (C1.out _).mono ?_
    rintro en w1 ⟨rfl, h1⟩
    have H1 := Lib.hid h1
    clear h1
    go_wp2_with fail
    refine (CB.out _ (HT.out.below H1.out)).mono ?_
    rintro en w2 ⟨rfl, h2⟩
    have H2 := Lib.hid (bt H1.out h2)
    clear h2
    go_wp2_with fail
    refine (C2.out _ (HT.out.below H2.out)).mono ?_
    rintro en w3 ⟨rfl, h3⟩
    have H3 := Lib.hid (bt H2.out h3)
    clear h3
    go_wp2
    go_ret
    exact ⟨by first | rfl | (simp; done) | (simp; omega), H3.out⟩
set_option maxRecDepth 100000 in
set_option maxHeartbeats 4000000 in
theorem fair_walk (t : ByteArray) (ht : t.size ≤ 1100000) (w : World) (hT : Tab w) : Calls Tryd.prog 5 #[.string t] w (BoolQ true w) := by
  have C1 := Lib.hid (fun w h => read_any t ht w h)
  have C2 := Lib.hid (fun w h => fair_any t ht w h)
  have CB := Lib.hid (fun w h => begun_any w h)
  have HT := Lib.hid hT
  clear hT
  unfold RQ fairF at C2
  unfold RQ at C1
  have hrl := readF_len (nt t)
  have hfl := fun h => fair (l := nt t) h
  have hno := @readF_no (nt t)
  have hrw := rawF_lt (readF (nt t)).1
  have hrwl := rawF_len (readF (nt t)).1
  rw [nt_len] at hfl
  have CR := fun w h => read_any (sB (rawF (readF (nt t)).1)) (by rw [sB_size, hrwl]; unfold fit; omega) w h
  have CF := fun w h => fair_any (sB (rawF (readF (nt t)).1)) (by rw [sB_size, hrwl]; unfold fit; omega) w h
  unfold RQ at CR CF
  unfold fairF at CF
  rw [nt_sB hrw] at CR CF
  have hul : (sB (rawF (readF (nt t)).1)).size = (rawF (readF (nt t)).1).length := sB_size _
  clear hrl hrwl hrw
  generalize readF (nt t) = R at *
  obtain ⟨L, E⟩ := R
  simp only at hfl hno CR CF C1 C2 hul
  have eE : (E == E) = true := by simp
  have e0 : sB [] = ⟨#[]⟩ := rfl
  by_cases hE : E = 0
  · subst hE
    obtain ⟨g1, g2⟩ := hfl rfl
    rw [g1] at CR CF
    simp only [if_true] at C2 CF
    simp only at CR CF
    rw [← hul] at g2
    clear g1 hfl hno hul
    generalize sB (rawF L) = U at *
    generalize sB L = S at *
    have C3 := Lib.hid CR; have C4 := Lib.hid CF
    have e1 := str_self U; have e2 := str_self S
    have g3 : (U.size : Int) ≤ (t.size : Int) := by omega
    clear CR CF g2
    go_enter Tryd.func5, Tryd.ntmps5
    go_wp2_with fail
    refine (C1.out _ HT.out).mono ?_
    rintro en w1 ⟨rfl, h1⟩
    have H1 := Lib.hid h1
    clear h1
    go_wp2_with fail
    refine (C2.out _ (HT.out.below H1.out)).mono ?_
    rintro en w2 ⟨rfl, h2⟩
    have H2 := Lib.hid (bt H1.out h2)
    clear h2
    go_wp2_with fail
    refine (CB.out _ (HT.out.below H2.out)).mono ?_
    rintro en w3 ⟨rfl, h3⟩
    have H3 := Lib.hid (bt H2.out h3)
    clear h3
    go_wp2_with fail
    refine (C3.out _ (HT.out.below H3.out)).mono ?_
    rintro en w4 ⟨rfl, h4⟩
    have H4 := Lib.hid (bt H3.out h4)
    clear h4
    go_wp2_with fail
    refine (C4.out _ (HT.out.below H4.out)).mono ?_
    rintro en w5 ⟨rfl, h5⟩
    have H5 := Lib.hid (bt H4.out h5)
    clear h5
    go_wp2
    go_ret
    exact ⟨by first | rfl | (simp; done) | (simp; omega), H5.out⟩
  · have hL := hno hE
    subst hL
    simp only [if_neg hE] at C2
    simp only [e0] at C1 C2
    have hE1 : (E == 0) = false := by simpa using hE
    clear hfl hno CR CF hul hE e0
    go_enter Tryd.func5, Tryd.ntmps5
    go_wp2_with fail
    refine (C1.out _ HT.out).mono ?_
    rintro en w1 ⟨rfl, h1⟩
    have H1 := Lib.hid h1
    clear h1
    go_wp2_with fail
    refine (C2.out _ (HT.out.below H1.out)).mono ?_
    rintro en w2 ⟨rfl, h2⟩
    have H2 := Lib.hid (bt H1.out h2)
    clear h2
    go_wp2_with fail
    refine (CB.out _ (HT.out.below H2.out)).mono ?_
    rintro en w3 ⟨rfl, h3⟩
    have H3 := Lib.hid (bt H2.out h3)
    clear h3
    go_wp2
    go_ret
    exact ⟨by first | rfl | (simp; done), H3.out⟩
set_option maxRecDepth 100000 in
set_option maxHeartbeats 4000000 in
theorem loose_walk (t : ByteArray) (k : Int) (ht : t.size ≤ 1090000) (w : World) (hT : Tab w) : Calls Tryd.prog 6 #[.string t, .int .i64 k] w (BoolQ true w) := by
  have C1 := Lib.hid (fun w h => read_any t (by omega) w h)
  have CS := Lib.hid (fun w => smaller_any t (by omega) w)
  have CB := Lib.hid (fun w h => begun_any w h)
  have HT := Lib.hid hT
  clear hT
  unfold RQ at C1
  have hz : (sB ((nt t).map small)).size = t.size := by rw [sB_size, List.length_map, nt_len]
  have CR := fun w h => read_any (sB ((nt t).map small)) (by rw [hz]; omega) w h
  unfold RQ at CR
  have hsl : ∀ c ∈ (nt t).map small, c < 256 := fun c hc => by
    obtain ⟨x, hx, rfl⟩ := List.mem_map.1 hc
    exact small_lt x (nt_lt t x hx)
  rw [nt_sB hsl, readF_small (nt_lt t)] at CR
  have C3 := Lib.hid CR
  clear CR hz hsl
  by_cases hk : 0 ≤ k ∧ k ≤ (t.size : Int)
  · obtain ⟨n, rfl⟩ : ∃ n : Nat, k = n := ⟨k.toNat, by omega⟩
    have hn : n ≤ t.size := by omega
    obtain ⟨P, hP⟩ : ∃ P, t.extract 0 n = P := ⟨_, rfl⟩
    obtain ⟨Q, hQ⟩ : ∃ Q, t.extract n t.size = Q := ⟨_, rfl⟩
    have hPQ : nt t = nt P ++ nt Q := by
      have : t = P ++ Q := by
        rw [← hP, ← hQ]
        apply ba_of
        rw [ByteArray.data_append, Array.toList_append, ByteArray.data_extract, ByteArray.data_extract]
        simp only [Array.toList_extract, List.extract_eq_take_drop]
        have hl : t.data.toList.length = t.size := Array.length_toList
        rw [Nat.sub_zero, List.drop_zero, ← hl]
        rw [List.take_of_length_le (l := t.data.toList.drop n) (by simp)]
        exact (List.take_append_drop n _).symm
      unfold nt
      rw [this, ByteArray.data_append, Array.toList_append, List.map_append]
    have hPs : P.size = n := by rw [← hP]; simp; omega
    have hQs : Q.size = t.size - n := by rw [← hQ]; simp
    have hmid : nt (P ++ ⟨#[45]⟩ ++ Q) = nt P ++ 45 :: nt Q := by
      unfold nt
      rw [ByteArray.data_append, Array.toList_append, ByteArray.data_append, Array.toList_append, List.map_append, List.map_append, List.append_assoc]
      rfl
    have h1s : (⟨#[45]⟩ : ByteArray).size = 1 := rfl
    have C2 := Lib.hid (fun w h => read_any (P ++ ⟨#[45]⟩ ++ Q) (by rw [ByteArray.size_append, ByteArray.size_append, h1s]; omega) w h)
    unfold RQ at C2
    rw [hmid, loose, ← hPQ] at C2
    have ct1 := fun w => run_string_add_sum (P := Tryd.prog) (w := w) P ⟨#[45]⟩ (by rw [h1s]; omega)
    have ct2 := fun w => run_string_add_sum (P := Tryd.prog) (w := w) (P ++ ⟨#[45]⟩) Q (by rw [ByteArray.size_append, h1s]; omega)
    have hs1 : ∀ w, (Instr.slice 9 (.string t) none (some (.int .i64 (n : Int))) none).run Tryd.prog w = .ok (.string P) w := fun w => by
      have := run_slice_string_h (P := Tryd.prog) (w := w) 9 t Tryd.underlying9 .i64 (n : Int) (by omega) (by omega)
      rw [this, Int.toNat_natCast, hP]
    have hs2 : ∀ w, (Instr.slice 9 (.string t) (some (.int .i64 (n : Int))) none none).run Tryd.prog w = .ok (.string Q) w := fun w => by
      have := run_slice_string_l (P := Tryd.prog) (w := w) 9 t Tryd.underlying9 .i64 (n : Int) (by omega) (by omega)
      rw [this, Int.toNat_natCast, hQ]
    have i0 : ¬ (n : Int) < 0 := by omega
    have i1 : ¬ (t.size : Int) < (n : Int) := by omega
    generalize readF (nt t) = R at *
    obtain ⟨L, E⟩ := R
    simp only at C1 C2 C3
    generalize sB L = S at *
    have eE : (E == E) = true := by simp
    have eS := str_self S
    have HZ := Lib.hid (And.intro hPs hQs)
    clear hPQ hPs hQs hmid hP hQ
    go_enter Tryd.func6, Tryd.ntmps6
    go_wp2_with fail
    refine (C1.out _ HT.out).mono ?_
    rintro en w1 ⟨rfl, h1⟩
    have H1 := Lib.hid h1
    clear h1
    go_wp2_with fail
    refine (CB.out _ (HT.out.below H1.out)).mono ?_
    rintro en w2 ⟨rfl, h2⟩
    have H2 := Lib.hid (bt H1.out h2)
    clear h2
    go_wp2_with fail
    go_region_with (first | (go_at_call 8; refine (C2.out _ (HT.out.below (bn H2.out 1))).mono ?_; rintro en w3 ⟨rfl, h3⟩))
    all_goals
      have H3 := Lib.hid (bd H2.out h3)
      clear h3
      go_wp2_with fail
      refine (CS.out _).mono ?_
      rintro en w4 ⟨rfl, h4⟩
      have H4 := Lib.hid (bt H3.out h4)
      clear h4
      go_wp2_with fail
      refine (C3.out _ (HT.out.below H4.out)).mono ?_
      rintro en w5 ⟨rfl, h5⟩
      have H5 := Lib.hid (bt H4.out h5)
      clear h5
      go_wp2
      go_ret
      exact ⟨by first | rfl | (simp; done), H5.out⟩
  · have hkk : k < 0 ∨ (0 ≤ k ∧ (t.size : Int) < k) := by omega
    clear hk C3 CS
    generalize readF (nt t) = R at *
    rcases hkk with h | ⟨h0, h⟩
    all_goals
      go_enter Tryd.func6, Tryd.ntmps6
      go_wp2_with fail
      refine (C1.out _ HT.out).mono ?_
      rintro en w1 ⟨rfl, h1⟩
      have H1 := Lib.hid h1
      clear h1
      go_wp2_with fail
      refine (CB.out _ (HT.out.below H1.out)).mono ?_
      rintro en w2 ⟨rfl, h2⟩
      have H2 := Lib.hid (bt H1.out h2)
      clear h2
      go_wp2
      go_ret
      exact ⟨by first | rfl | (simp; done), H2.out⟩
end Sl
end Go.Proofs.YtkanlfgomfibdaaDoor
