/- Spelling: the statements' walks. -/
import Derived.Test.YtkanlfgomfibdaaDoorSpellRead2
import Derived.Test.YtkanlfgomfibdaaDoorSpellRef3
import Derived.Deep.RegionWith
import Derived.BigRegion
set_option linter.unusedSimpArgs false
set_option linter.unusedVariables false
namespace Go.Proofs.YtkanlfgomfibdaaDoor
open Go.RowKit
namespace Sl
open Bt
abbrev BoolQ (b : Bool) (w : World) (e : Ending) (w' : World) : Prop := e = .returned (.bool b) ∧ Below w.heap.size w w'
theorem seq_self (s : ByteArray) : (s.data.toList == s.data.toList) = true := by simp
theorem b1 : (if 120 < (⟨#[0, 255, 65]⟩ : ByteArray).size then ([], 2) else (rawF (nt ⟨#[0, 255, 65]⟩), (0 : Int))) = ([48, 51, 90, 77, 50], 0) := by decide +kernel
theorem b2 : readF (nt ⟨#[48, 45, 51, 122, 109, 45, 50]⟩) = ([0, 255, 65], 0) := by decide +kernel
theorem b3 : fairF (nt ⟨#[111, 51, 122, 105, 45, 103]⟩) = ([48, 51, 90, 49, 71], 0) := by decide +kernel
theorem b4 : readF (nt ⟨#[48, 85]⟩) = ([], 1) := by decide +kernel
theorem b5 : readF (nt ⟨#[48, 48, 48]⟩) = ([], 1) := by decide +kernel
set_option maxRecDepth 100000 in
set_option maxHeartbeats 4000000 in
theorem begun_any (w : World) (hT : Tab w) : Calls Tryd.prog 12 #[] w (BoolQ true w) := by
  have C1 := Lib.hid (fun w => write_any ⟨#[0, 255, 65]⟩ (by decide) w)
  have C2 := Lib.hid (fun w h => read_any ⟨#[48, 45, 51, 122, 109, 45, 50]⟩ (by decide) w h)
  have C3 := Lib.hid (fun w h => fair_any ⟨#[111, 51, 122, 105, 45, 103]⟩ (by decide) w h)
  have C4 := Lib.hid (fun w h => read_any ⟨#[48, 85]⟩ (by decide) w h)
  have C5 := Lib.hid (fun w h => read_any ⟨#[48, 48, 48]⟩ (by decide) w h)
  rw [b1] at C1; rw [b2] at C2; rw [b3] at C3; rw [b4] at C4; rw [b5] at C5
  have e1 : sB [48, 51, 90, 77, 50] = ⟨#[48, 51, 90, 77, 50]⟩ := by decide +kernel
  have e2 : sB [0, 255, 65] = ⟨#[0, 255, 65]⟩ := by decide +kernel
  have e3 : sB [48, 51, 90, 49, 71] = ⟨#[48, 51, 90, 49, 71]⟩ := by decide +kernel
  unfold RQ at C1 C2 C3 C4 C5
  simp only [e1] at C1
  simp only [e2] at C2
  simp only [e3] at C3
  clear e1 e2 e3
  have f1 := seq_self ⟨#[48, 51, 90, 77, 50]⟩
  have f2 := seq_self ⟨#[0, 255, 65]⟩
  have f3 := seq_self ⟨#[48, 51, 90, 49, 71]⟩
  have HT := Lib.hid hT
  clear hT
  go_enter Tryd.func12, Tryd.ntmps12
  go_wp2_with fail
  refine (C1.out _).mono ?_
  rintro en w1 ⟨rfl, h1⟩
  have H1 := Lib.hid h1
  clear h1
  go_wp2_with fail
  refine (C2.out _ (HT.out.below H1.out)).mono ?_
  rintro en w2 ⟨rfl, h2⟩
  have H2 := Lib.hid (bt H1.out h2)
  clear h2
  go_wp2_with fail
  refine (C3.out _ (HT.out.below H2.out)).mono ?_
  rintro en w3 ⟨rfl, h3⟩
  have H3 := Lib.hid (bt H2.out h3)
  clear h3
  go_wp2_with fail
  refine (C4.out _ (HT.out.below H3.out)).mono ?_
  rintro en w4 ⟨rfl, h4⟩
  have H4 := Lib.hid (bt H3.out h4)
  clear h4
  go_wp2_with fail
  refine (C5.out _ (HT.out.below H4.out)).mono ?_
  rintro en w5 ⟨rfl, h5⟩
  have H5 := Lib.hid (bt H4.out h5)
  clear h5
  go_wp2
  go_ret
  exact ⟨by first | rfl | (simp; done), H5.out⟩
theorem str_self (a : ByteArray) : (a.toList == a.toList) = true := by simp
def em : ByteArray := ⟨#[]⟩
set_option maxRecDepth 100000 in
set_option maxHeartbeats 4000000 in
theorem tells_walk (s t : ByteArray) (hs : s.size ≤ 1100000) (ht : t.size ≤ 1100000) (w : World) (hT : Tab w) : Calls Tryd.prog 3 #[.string s, .string t] w (BoolQ true w) := by
  have C1 := Lib.hid (fun w => write_any s (by unfold maxLen; omega) w)
  have C2 := Lib.hid (fun w h => read_any t ht w h)
  have C3 := Lib.hid (fun w h => fair_any t ht w h)
  have C4 := Lib.hid (fun w => spelled_any s (by omega) w)
  have C5 := Lib.hid (fun w => unspelled_any t ht w)
  have CB := Lib.hid (fun w h => begun_any w h)
  have HT := Lib.hid hT
  clear hT
  unfold fairF at C3
  have hlen := readF_len (nt t)
  have hlt := readF_lt (nt t)
  have hno := @readF_no (nt t)
  generalize readF (nt t) = R at *
  obtain ⟨L, E⟩ := R
  simp only at hlen hlt hno C3
  unfold RQ at C1 C2 C3 C5
  simp only at C2 C5
  have C6 := Lib.hid (fun w => spelled_any (sB L) (by rw [sB_size]; omega) w)
  rw [nt_sB hlt] at C6
  have HNO := Lib.hid hno
  clear hlen hlt hno
  obtain ⟨A, hA⟩ : ∃ A, sB L = A := ⟨_, rfl⟩
  obtain ⟨F, hF⟩ : ∃ F, sB (rawF L) = F := ⟨_, rfl⟩
  obtain ⟨S, hS⟩ : ∃ S, sB (rawF (nt s)) = S := ⟨_, rfl⟩
  rw [hA] at C2 C5 C6
  rw [hF] at C6
  rw [hS] at C4
  have eA := str_self A; have eF := str_self F; have eS := str_self S
  have eE : (E == E) = true := by simp
  have hs0 : sB [] = ⟨#[]⟩ := rfl
  by_cases h120 : 120 < s.size
  all_goals
    first
      | rw [if_pos h120] at C1
      | rw [if_neg h120] at C1
    first
      | (have i1 : ¬ (s.size : Int) ≤ 120 := by omega)
      | (have i1 : (s.size : Int) ≤ 120 := by omega)
    simp only [hS] at C1
    by_cases hE : E = 0
    all_goals
      first
        | rw [if_pos hE] at C3
        | rw [if_neg hE] at C3
      simp only [hF, hs0] at C3
      try simp only [hs0] at C1
      first
        | subst hE
        | (have hE1 : (E == 0) = false := by simpa using hE)
      have HX := Lib.hid h120
      clear h120 hS hF hA hs0
      go_enter Tryd.func3, Tryd.ntmps3
      go_wp2_with fail
      refine (C1.out _).mono ?_
      rintro en w1 ⟨rfl, h1⟩
      have H1 := Lib.hid h1
      clear h1
      go_wp2_with fail
      refine (C2.out _ (HT.out.below H1.out)).mono ?_
      rintro en w2 ⟨rfl, h2⟩
      have H2 := Lib.hid (bt H1.out h2)
      clear h2
      go_wp2_with fail
      refine (C3.out _ (HT.out.below H2.out)).mono ?_
      rintro en w3 ⟨rfl, h3⟩
      have H3 := Lib.hid (bt H2.out h3)
      clear h3
      go_wp2_with fail
      first
        | (refine (C4.out _).mono ?_
           rintro en w4 ⟨rfl, h4⟩
           have H4 := Lib.hid (bt H3.out h4)
           clear h4
           go_wp2_with fail
           refine (C5.out _).mono ?_
           rintro en w5 ⟨rfl, h5⟩
           have H5 := Lib.hid (bt H4.out h5)
           clear h5)
        | (refine (C5.out _).mono ?_
           rintro en w5 ⟨rfl, h5⟩
           have H5 := Lib.hid (bt H3.out h5)
           clear h5)
      go_wp2_with fail
      first
        | (refine (C6.out _).mono ?_
           rintro en w6 ⟨rfl, h6⟩
           have H6 := Lib.hid (bt H5.out h6)
           clear h6
           go_wp2_with fail
           refine (CB.out _ (HT.out.below H6.out)).mono ?_
           rintro en w7 ⟨rfl, h7⟩
           have H7 := Lib.hid (bt H6.out h7)
           clear h7)
        | (refine (CB.out _ (HT.out.below H5.out)).mono ?_
           rintro en w7 ⟨rfl, h7⟩
           have H7 := Lib.hid (bt H5.out h7)
           clear h7)
      go_wp2
      go_ret
      exact ⟨by first | rfl | (simp; done), H7.out⟩
end Sl
end Go.Proofs.YtkanlfgomfibdaaDoor
