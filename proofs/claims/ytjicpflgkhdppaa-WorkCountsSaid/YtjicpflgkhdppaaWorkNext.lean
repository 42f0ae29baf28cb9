/- Days of work: asked, next, and the almanac's making. -/
import Derived.Test.YtjicpflgkhdppaaWorkIs
set_option linter.unusedSimpArgs false
set_option linter.unusedVariables false
namespace Go.Proofs.Ytjicpflgkhdppaa
open Go.RowKit
namespace Wk
open Dt
def isF (rest : List Bool) (rules : List Rl) (n : Int) : Bool × Int := if inB n = true then (isW rest rules n, 0) else (false, 3)
def nx (rest : List Bool) (rules : List Rl) : Nat → Int → Int × Int
  | 0, n => (0, 3)
  | k + 1, n => if isW rest rules n = true then (n, 0) else nx rest rules k (n + 1)
def nextF (rest : List Bool) (rules : List Rl) (n : Int) : Int × Int := if inB n = true then nx rest rules (3651694 - n).toNat n else (0, 3)
theorem inB_iff (n : Int) : inB n = true ↔ 1 ≤ n ∧ n ≤ 3651693 := by unfold inB; simp
theorem nextF_step (rest : List Bool) (rules : List Rl) (n : Int) (h : inB n = true) : nextF rest rules n = if isW rest rules n = true then (n, 0) else nextF rest rules (n + 1) := by
  obtain ⟨h1, h2⟩ := (inB_iff n).1 h
  have e : nextF rest rules n = nx rest rules (3651694 - n).toNat n := by unfold nextF; rw [if_pos h]
  rw [e]
  obtain ⟨k, hk⟩ : ∃ k, (3651694 - n).toNat = k + 1 := ⟨(3651694 - n).toNat - 1, by omega⟩
  rw [hk]
  show (if isW rest rules n = true then (n, 0) else nx rest rules k (n + 1)) = _
  congr 1
  unfold nextF
  by_cases c : inB (n + 1) = true
  · rw [if_pos c]; congr 1; omega
  · rw [if_neg c]
    have : k = 0 := by
      have := mt (inB_iff (n + 1)).2 c
      omega
    subst this; rfl
theorem nextF_out (rest : List Bool) (rules : List Rl) (n : Int) (h : inB n = false) : nextF rest rules n = (0, 3) := by unfold nextF; rw [if_neg (by simp [h])]
theorem nextF_in (rest : List Bool) (rules : List Rl) (n : Int) : nextF rest rules n = (0, 3) ∨ ∃ m, nextF rest rules n = (m, 0) ∧ n ≤ m ∧ inB m = true ∧ isW rest rules m = true ∧ ∀ k, n ≤ k → k < m → inB k = true ∧ isW rest rules k = false := by
  have gen : ∀ (f : Nat) (n : Int), (3651694 - n).toNat ≤ f → nextF rest rules n = (0, 3) ∨ ∃ m, nextF rest rules n = (m, 0) ∧ n ≤ m ∧ inB m = true ∧ isW rest rules m = true ∧ ∀ k, n ≤ k → k < m → inB k = true ∧ isW rest rules k = false := by
    intro f
    induction f with
    | zero =>
      intro n hf
      left
      refine nextF_out _ _ _ ?_
      rw [Bool.eq_false_iff]; intro h
      have := (inB_iff n).1 h; omega
    | succ f ih =>
      intro n hf
      by_cases h : inB n = true
      · rw [nextF_step _ _ _ h]
        by_cases hw : isW rest rules n = true
        · rw [if_pos hw]
          exact .inr ⟨n, rfl, Int.le_refl _, h, hw, fun k h1 h2 => by omega⟩
        · rw [if_neg hw]
          have := (inB_iff n).1 h
          rcases ih (n + 1) (by omega) with h3 | ⟨m, h3, h4, h5, h6, h7⟩
          · exact .inl h3
          · refine .inr ⟨m, h3, by omega, h5, h6, fun k h8 h9 => ?_⟩
            by_cases e : k = n
            · subst e; exact ⟨h, by simpa using hw⟩
            · exact h7 k (by omega) h9
      · exact .inl (nextF_out _ _ _ (by simpa using h))
  exact gen _ n (Nat.le_refl _)
section
variable {w w' : World} {A M : Nat} {rest : List Bool} {v : Value} {rules : List Rl}
set_option maxRecDepth 100000 in
set_option maxHeartbeats 4000000 in
theorem asked_any (A M : Nat) (rest : List Bool) (v : Value) (rules : List Rl) (hc : Cal rest rules) (n : Int) (w : World) (h : Alm w A M rest v rules) : Calls Try.prog 48 #[pA A, .int .i64 n] w (AlmQ A M rest v rules (.tuple #[.bool (isF rest rules n).1, .int .i64 (isF rest rules n).2]) w) := by
  have CI : RowKit.Hid (∀ w, Calls Try.prog 45 #[.int .i64 n] w fun e w' => e = .returned (.bool (inB n)) ∧ w = w') := Lib.hid (in_any n)
  have HH := Lib.hid h
  by_cases hb : inB n = true
  · have e : isF rest rules n = (isW rest rules n, 0) := by unfold isF; rw [if_pos hb]
    obtain ⟨h1, h2⟩ := (inB_iff n).1 hb
    rw [e]
    rw [hb] at CI
    have C2 : RowKit.Hid (Calls Try.prog 47 #[pA A, .int .i64 n] w (AlmQ A M rest v rules (.bool (isW rest rules n)) w)) := Lib.hid (is_any A M rest v rules hc n h1 h2 w h)
    obtain ⟨b, hb'⟩ : ∃ b, isW rest rules n = b := ⟨_, rfl⟩
    rw [hb'] at C2
    simp only [hb']
    clear hb' e hb h hc
    go_enter Try.func48, Try.ntmps48
    go_wp2_with fail
    refine (CI.out _).mono ?_
    rintro en w1 ⟨rfl, e1⟩
    subst e1
    go_wp2_with fail
    refine C2.out.mono ?_
    rintro en w2 ⟨rfl, ha, hg⟩
    go_wp2
    go_ret2
    exact ⟨rfl, ha, hg⟩
  · have hb' : inB n = false := by simpa using hb
    have e : isF rest rules n = (false, 3) := by unfold isF; rw [if_neg hb]
    rw [e]
    rw [hb'] at CI
    clear e hb h hc hb'
    go_enter Try.func48, Try.ntmps48
    go_wp2_with fail
    refine (CI.out _).mono ?_
    rintro en w1 ⟨rfl, e1⟩
    subst e1
    go_wp2
    go_ret2
    exact ⟨rfl, HH.out, World.grownBy.refl _ _⟩
set_option maxRecDepth 100000 in
set_option maxHeartbeats 4000000 in
theorem next_any (A M : Nat) (rest : List Bool) (v : Value) (rules : List Rl) (hc : Cal rest rules) (n : Int) (w : World) (h : Alm w A M rest v rules) : Calls Try.prog 46 #[pA A, .int .i64 n] w (AlmQ A M rest v rules (.tuple #[.int .i64 (nextF rest rules n).1, .int .i64 (nextF rest rules n).2]) w) := by
  have CI : RowKit.Hid (∀ n w, Alm w A M rest v rules → Calls Try.prog 48 #[pA A, .int .i64 n] w (AlmQ A M rest v rules (.tuple #[.bool (isF rest rules n).1, .int .i64 (isF rest rules n).2]) w)) := Lib.hid (fun n w h => asked_any A M rest v rules hc n w h)
  have HH := Lib.hid h
  have HG := Lib.hid (World.grownBy.refl w (some M))
  have HS := Lib.hid (nextF_step rest rules)
  have HO := Lib.hid (nextF_out rest rules)
  have HF : RowKit.Hid (∀ n, inB n = true → isF rest rules n = (isW rest rules n, 0)) := Lib.hid (fun n hb => by unfold isF; rw [if_pos hb])
  have HF2 : RowKit.Hid (∀ n, inB n = false → isF rest rules n = (false, 3)) := Lib.hid (fun n hb => by unfold isF; rw [if_neg (by simp [hb])])
  obtain ⟨Z, hZ⟩ : ∃ Z, nextF rest rules n = Z := ⟨_, rfl⟩
  rw [hZ]
  have HZ := Lib.hid hZ
  clear h hc hZ
  go_enter Try.func46, Try.ntmps46
  go_wp2
  go_loopw [1] (fun i wr => ∃ k : Int, i = .int .i64 k ∧ nextF rest rules k = Z ∧ Alm wr A M rest v rules ∧ w.grownBy wr (some M)) (fun i _ => (3651694 - intOf i).toNat)
  case atStart => exact ⟨n, rfl, HZ.out, HH.out, HG.out⟩
  case round =>
    obtain ⟨k, rfl, hk, ha, hg⟩ := hrel
    have HG2 := Lib.hid hg
    have CK := Lib.hid (CI.out k wr ha)
    by_cases hb : inB k = true
    · obtain ⟨k1, k2⟩ := (inB_iff k).1 hb
      rw [HS.out k hb] at hk
      rw [HF.out k hb] at CK
      simp only at CK
      clear HZ HH HG CI HF HF2 HS HO ha hg hb
      obtain ⟨b, hb'⟩ : ∃ b, isW rest rules k = b := ⟨_, rfl⟩
      rw [hb'] at CK hk
      clear hb'
      cases b with
      | true =>
        rw [if_pos rfl] at hk
        have HK := Lib.hid hk
        clear hk
        go_wp2_with fail
        refine CK.out.mono ?_
        rintro en w2 ⟨rfl, ha2, hg2⟩
        have HA2 := Lib.hid ha2
        have HG3 := Lib.hid (gtr HG2.out hg2)
        clear ha2 hg2
        go_wp2
        go_ret2
        exact ⟨by rw [← HK.out]; rfl, HA2.out, HG3.out⟩
      | false =>
        rw [if_neg (by simp)] at hk
        have HK := Lib.hid hk
        clear hk
        go_wp2_with fail
        refine CK.out.mono ?_
        rintro en w2 ⟨rfl, ha2, hg2⟩
        have HA2 := Lib.hid ha2
        have HG3 := Lib.hid (gtr HG2.out hg2)
        clear ha2 hg2
        go_wp2
        go_roundw
        case rel => exact ⟨k + 1, by first | rfl | go_num, HK.out, HA2.out, HG3.out⟩
        case measure => simp [intOf]; omega
    · have hb' : inB k = false := by simpa using hb
      rw [HO.out k hb'] at hk
      rw [HF2.out k hb'] at CK
      simp only at CK
      have HK := Lib.hid hk
      clear HZ HH HG CI HF HF2 HS HO ha hg hb hk hb'
      go_wp2_with fail
      refine CK.out.mono ?_
      rintro en w2 ⟨rfl, ha2, hg2⟩
      have HA2 := Lib.hid ha2
      have HG3 := Lib.hid (gtr HG2.out hg2)
      clear ha2 hg2
      go_wp2
      go_ret2
      exact ⟨by rw [← HK.out]; rfl, HA2.out, HG3.out⟩
end
def MadeQ (rest : List Bool) (v : Value) (rules : List Rl) (w : World) (e : Ending) (w' : World) : Prop := ∃ A M, e = .returned (pA A) ∧ Alm w' A M rest v rules ∧ Below w.heap.size w w' ∧ w.heap.size ≤ M
set_option maxRecDepth 100000 in
set_option maxHeartbeats 4000000 in
theorem made_any (rest : List Bool) (hr : rest.length = 7) (v : Value) (rules : List Rl) (w : World) (h : RdE elRl w v rules) : Calls Try.prog 36 #[cV rest v] w (MadeQ rest v rules w) := by
  have HRD := Lib.hid h
  obtain ⟨a, cap, rfl, h1, h2, h3⟩ := h
  clear h3
  obtain ⟨b0, b1, b2, b3, b4, b5, b6, rfl⟩ := len7 hr
  show Calls Try.prog 36 #[.agg #[.bool b0, .bool b1, .bool b2, .bool b3, .bool b4, .bool b5, .bool b6, .slice a rules.length cap]] w (MadeQ _ _ _ w)
  have hmm := @run_makeMap Try.prog
  have HB := Lib.hid (((br w).alloc (Nat.le_refl _) (.cells #[.bool b0, .bool b1, .bool b2, .bool b3, .bool b4, .bool b5, .bool b6, .slice a rules.length cap] 25)).alloc (by simp) (.map #[] 0))
  go_enter Try.func36, Try.ntmps36
  go_wp2
  go_ret
  have hm : (((w.alloc (.cells #[.bool b0, .bool b1, .bool b2, .bool b3, .bool b4, .bool b5, .bool b6, .slice a rules.length cap] 25)).alloc (.map #[] 0)).alloc (.cells (almB [b0, b1, b2, b3, b4, b5, b6] (.slice a rules.length cap) (w.heap.size + 1)).toArray 87)).heap[w.heap.size + 1]? = some (.map #[] 0) := by
    rw [Below.heap_alloc _ _ _ (by simp)]
    have := (MapKept.heap_alloc (w.alloc (.cells #[.bool b0, .bool b1, .bool b2, .bool b3, .bool b4, .bool b5, .bool b6, .slice a rules.length cap] 25)) (.map #[] 0)).1
    simpa using this
  refine ⟨w.heap.size + 2, w.heap.size + 1, by first | rfl | (simp; done), ⟨?_, ?_, ⟨#[], 0, hm, ⟨by simp, MapKept.stamped_empty 0, by simp⟩, by simp⟩⟩, HB.out.alloc (by simp; omega) _, by omega⟩
  · have := Box.new ((w.alloc (.cells #[.bool b0, .bool b1, .bool b2, .bool b3, .bool b4, .bool b5, .bool b6, .slice a rules.length cap] 25)).alloc (.map #[] 0)) 87 (almB [b0, b1, b2, b3, b4, b5, b6] (.slice a rules.length cap) (w.heap.size + 1))
    have e : ((w.alloc (.cells #[.bool b0, .bool b1, .bool b2, .bool b3, .bool b4, .bool b5, .bool b6, .slice a rules.length cap] 25)).alloc (.map #[] 0)).heap.size = w.heap.size + 2 := by simp
    rw [e] at this
    exact this
  · exact HRD.out.below (HB.out.alloc (by simp; omega) _)
end Wk
end Go.Proofs.Ytjicpflgkhdppaa
