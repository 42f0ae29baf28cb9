/- What is shared out: what is wrong with weights; even parts. -/
import Derived.Test.YtblbhkcnmkcdfaaSharePlain
import Derived.Test.YtblbhkcnmkcdfaaShareEl
set_option linter.unusedSimpArgs false
set_option linter.unusedVariables false
namespace Go.Proofs.Ytblbhkcnmkcdfaa
open Go.RowKit
namespace Sh
open Stb
abbrev TwoQ (a b : Int) (w : World) (e : Ending) (w' : World) : Prop := e = .returned (.tuple #[.int .i64 a, .int .i64 b]) ∧ w = w'
set_option maxHeartbeats 2000000 in
theorem all_any (v : Value) (t : Int) (ws : List Int) (w : World) (h : RdE elZ w v ws) : Calls Try.prog 19 #[.int .i64 t, v] w (TwoQ (allS t ws) (allE t ws) w) := by
  have hle := h.len_le
  obtain ⟨a, cap, rfl, h1, h2, h3⟩ := h
  have H3 := Lib.hid h3
  clear h3
  by_cases c1 : 32 < ws.length
  · have e1 : allE t ws = 2 := by unfold allE; rw [if_pos c1]
    have e2 : allS t ws = 0 := by unfold allS; rw [if_neg (by omega)]
    rw [e1, e2]
    have c2 : (ws.length : Int) > 32 := by omega
    clear e1 e2
    go_enter Try.func19, Try.ntmps19
    go_wp2
    go_ret2
    exact ⟨rfl, rfl⟩
  · by_cases c2 : t < 0 ∨ 100000 < t
    · have e1 : allE t ws = 3 := by unfold allE; rw [if_neg c1, if_pos c2]
      have e2 : allS t ws = 0 := by unfold allS; rw [if_neg (by omega)]
      rw [e1, e2]
      have c3 : decide ((ws.length : Int) > 32) = false := decide_eq_false (by omega)
      clear e1 e2
      by_cases c4 : t < 0
      · go_enter Try.func19, Try.ntmps19
        go_wp2
        go_ret2
        exact ⟨rfl, rfl⟩
      · have c5 : 100000 < t := by omega
        clear c2
        go_enter Try.func19, Try.ntmps19
        go_wp2
        go_ret2
        exact ⟨rfl, rfl⟩
    · have c4 : ¬ t < 0 := by omega
      have c5 : ¬ 100000 < t := by omega
      have E3 : RowKit.Hid (¬ (∀ x ∈ ws, okW x) → allE t ws = 3 ∧ allS t ws = 0) := Lib.hid (fun hn => by
        have e1 : allE t ws = 3 := by unfold allE; rw [if_neg c1, if_neg c2, if_neg hn]
        exact ⟨e1, by unfold allS; rw [if_neg (by omega)]⟩)
      have E5 : RowKit.Hid ((∀ x ∈ ws, okW x) → sumW ws ws.length = 0 → allE t ws = 5 ∧ allS t ws = 0) := Lib.hid (fun hy hs => by
        have e1 : allE t ws = 5 := by unfold allE; rw [if_neg c1, if_neg c2, if_pos hy, if_pos hs]
        exact ⟨e1, by unfold allS; rw [if_neg (by omega)]⟩)
      have E0 : RowKit.Hid ((∀ x ∈ ws, okW x) → sumW ws ws.length ≠ 0 → allE t ws = 0 ∧ allS t ws = sumW ws ws.length) := Lib.hid (fun hy hs => by
        have e1 : allE t ws = 0 := by unfold allE; rw [if_neg c1, if_neg c2, if_pos hy, if_neg hs]
        exact ⟨e1, by unfold allS; rw [if_pos e1]⟩)
      generalize allE t ws = er at *
      generalize allS t ws = es at *
      have c3 : ¬ (ws.length : Int) > 32 := by omega
      clear c2
      go_enter Try.func19, Try.ntmps19
      go_wp2
      go_loopw [6, 20] (fun s i wr => ∃ k : Nat, k ≤ ws.length ∧ i = .int .i64 k ∧ s = .int .i64 (sumW ws k) ∧ RowKit.Hid (∀ i, i < k → okW (wv ws i)) ∧ w = wr) (fun _ i _ => ws.length - (intOf i).toNat)
      case atStart => exact ⟨0, Nat.zero_le _, rfl, rfl, Lib.hid (fun i hi => by omega), rfl⟩
      case round =>
        obtain ⟨k, hk, rfl, rfl, hok, rfl⟩ := hrel
        have hb := sumW_bd hok.out
        have HSU : RowKit.Hid (sumW ws (k + 1) = sumW ws k + wv ws k) := Lib.hid rfl
        by_cases hlt : k < ws.length
        · obtain ⟨g, off, rfl, hbl, hc⟩ := H3.out (by omega)
          have d0 := eI_at hc k hlt
          rw [← wv_at hlt] at d0
          have i1 : (k : Int) < (ws.length : Int) := by omega
          have i0 : (0 : Int) ≤ (k : Int) := by omega
          have HWV : RowKit.Hid (wv ws k ∈ ws) := Lib.hid (by rw [wv_at hlt]; exact List.getElem_mem hlt)
          clear hc
          obtain ⟨x, hx⟩ : ∃ x, wv ws k = x := ⟨_, rfl⟩
          obtain ⟨s, hs⟩ : ∃ s, sumW ws k = s := ⟨_, rfl⟩
          rw [hx] at d0 HSU HWV; rw [hs] at HSU hb
          have HX := Lib.hid hx; have HSS := Lib.hid hs
          clear hx hs
          rw [HSS.out]
          by_cases cx : okW x
          · have cx2 := cx
            unfold okW at cx2
            have HCX := Lib.hid cx
            have x1 : ¬ x < 0 := by omega
            have x2 : ¬ 100000 < x := by omega
            clear cx
            have hk32 : s ≤ 3200000 := by omega
            go_wp2
            go_roundw
            case rel => exact ⟨k + 1, by omega, by go_num, by rw [HSU.out], Lib.hid (fun i hi => by
              by_cases c : i = k
              · subst c; rw [HX.out]; exact HCX.out
              · exact hok.out i (by omega)), by first | rfl | trivial⟩
            case measure => simp [intOf]; omega
          · have hno := E3.out (fun hy => cx (hy x HWV.out))
            have HNO := Lib.hid hno
            clear hno E0 E5 E3
            by_cases x1 : x < 0
            · clear cx
              go_wp2
              go_ret2
              exact ⟨by rw [HNO.out.1, HNO.out.2]; rfl, by first | rfl | trivial⟩
            · have x2 : 100000 < x := by unfold okW at cx; omega
              clear cx
              go_wp2
              go_ret2
              exact ⟨by rw [HNO.out.1, HNO.out.2]; rfl, by first | rfl | trivial⟩
        · have ek : k = ws.length := by omega
          subst ek
          have hy : ∀ x ∈ ws, okW x := fun x hx => by
            obtain ⟨i, hi, rfl⟩ := List.getElem_of_mem hx
            rw [← wv_at hi]; exact hok.out i hi
          obtain ⟨s, hs⟩ : ∃ s, sumW ws ws.length = s := ⟨_, rfl⟩
          have e5 := E5.out hy; have e0 := E0.out hy
          rw [hs] at e5 e0 ⊢
          have HE5 := Lib.hid e5; have HE0 := Lib.hid e0
          clear e5 e0 hy hs HSU hok E0 E5 E3 hb
          by_cases c : s = 0
          · subst c
            go_wp2
            go_ret2
            exact ⟨by rw [(HE5.out trivial).1, (HE5.out trivial).2]; rfl, by first | rfl | trivial⟩
          · have hz : (s == 0) = false := beq_eq_false_iff_ne.2 c
            go_wp2
            go_ret2
            exact ⟨by rw [(HE0.out c).1, (HE0.out c).2]; rfl, by first | rfl | trivial⟩
set_option maxHeartbeats 2000000 in
theorem weights_any (v : Value) (t : Int) (ws : List Int) (w : World) (h : RdE elZ w v ws) : Calls Try.prog 26 #[.int .i64 t, v] w (TwoQ (allS t ws) (allE t ws) w) := by
  have hle := h.len_le
  obtain ⟨a, cap, rfl, h1, h2, h3⟩ := h
  have H3 := Lib.hid h3
  clear h3
  by_cases c1 : 32 < ws.length
  · have e1 : allE t ws = 2 := by unfold allE; rw [if_pos c1]
    have e2 : allS t ws = 0 := by unfold allS; rw [if_neg (by omega)]
    rw [e1, e2]
    have c2 : (ws.length : Int) > 32 := by omega
    clear e1 e2
    go_enter Try.func26, Try.ntmps26
    go_wp2
    go_ret2
    exact ⟨rfl, rfl⟩
  · by_cases c2 : t < 0 ∨ 100000 < t
    · have e1 : allE t ws = 3 := by unfold allE; rw [if_neg c1, if_pos c2]
      have e2 : allS t ws = 0 := by unfold allS; rw [if_neg (by omega)]
      rw [e1, e2]
      have c3 : decide ((ws.length : Int) > 32) = false := decide_eq_false (by omega)
      clear e1 e2
      by_cases c4 : t < 0
      · go_enter Try.func26, Try.ntmps26
        go_wp2
        go_ret2
        exact ⟨rfl, rfl⟩
      · have c5 : 100000 < t := by omega
        clear c2
        go_enter Try.func26, Try.ntmps26
        go_wp2
        go_ret2
        exact ⟨rfl, rfl⟩
    · have c4 : ¬ t < 0 := by omega
      have c5 : ¬ 100000 < t := by omega
      have E3 : RowKit.Hid (¬ (∀ x ∈ ws, okW x) → allE t ws = 3 ∧ allS t ws = 0) := Lib.hid (fun hn => by
        have e1 : allE t ws = 3 := by unfold allE; rw [if_neg c1, if_neg c2, if_neg hn]
        exact ⟨e1, by unfold allS; rw [if_neg (by omega)]⟩)
      have E5 : RowKit.Hid ((∀ x ∈ ws, okW x) → sumW ws ws.length = 0 → allE t ws = 5 ∧ allS t ws = 0) := Lib.hid (fun hy hs => by
        have e1 : allE t ws = 5 := by unfold allE; rw [if_neg c1, if_neg c2, if_pos hy, if_pos hs]
        exact ⟨e1, by unfold allS; rw [if_neg (by omega)]⟩)
      have E0 : RowKit.Hid ((∀ x ∈ ws, okW x) → sumW ws ws.length ≠ 0 → allE t ws = 0 ∧ allS t ws = sumW ws ws.length) := Lib.hid (fun hy hs => by
        have e1 : allE t ws = 0 := by unfold allE; rw [if_neg c1, if_neg c2, if_pos hy, if_neg hs]
        exact ⟨e1, by unfold allS; rw [if_pos e1]⟩)
      generalize allE t ws = er at *
      generalize allS t ws = es at *
      have c3 : ¬ (ws.length : Int) > 32 := by omega
      clear c2
      go_enter Try.func26, Try.ntmps26
      go_wp2
      go_loopw [6, 7] (fun s i wr => ∃ k : Nat, k ≤ ws.length ∧ i = .int .i64 k ∧ s = .int .i64 (sumW ws k) ∧ RowKit.Hid (∀ i, i < k → okW (wv ws i)) ∧ w = wr) (fun _ i _ => ws.length - (intOf i).toNat)
      case atStart => exact ⟨0, Nat.zero_le _, rfl, rfl, Lib.hid (fun i hi => by omega), rfl⟩
      case round =>
        obtain ⟨k, hk, rfl, rfl, hok, rfl⟩ := hrel
        have hb := sumW_bd hok.out
        have HSU : RowKit.Hid (sumW ws (k + 1) = sumW ws k + wv ws k) := Lib.hid rfl
        by_cases hlt : k < ws.length
        · obtain ⟨g, off, rfl, hbl, hc⟩ := H3.out (by omega)
          have d0 := eI_at hc k hlt
          rw [← wv_at hlt] at d0
          have i1 : (k : Int) < (ws.length : Int) := by omega
          have i0 : (0 : Int) ≤ (k : Int) := by omega
          have HWV : RowKit.Hid (wv ws k ∈ ws) := Lib.hid (by rw [wv_at hlt]; exact List.getElem_mem hlt)
          clear hc
          obtain ⟨x, hx⟩ : ∃ x, wv ws k = x := ⟨_, rfl⟩
          obtain ⟨s, hs⟩ : ∃ s, sumW ws k = s := ⟨_, rfl⟩
          rw [hx] at d0 HSU HWV; rw [hs] at HSU hb
          have HX := Lib.hid hx; have HSS := Lib.hid hs
          clear hx hs
          rw [HSS.out]
          by_cases cx : okW x
          · have cx2 := cx
            unfold okW at cx2
            have HCX := Lib.hid cx
            have x1 : ¬ x < 0 := by omega
            have x2 : ¬ 100000 < x := by omega
            clear cx
            have hk32 : s ≤ 3200000 := by omega
            go_wp2
            go_roundw
            case rel => exact ⟨k + 1, by omega, by go_num, by rw [HSU.out], Lib.hid (fun i hi => by
              by_cases c : i = k
              · subst c; rw [HX.out]; exact HCX.out
              · exact hok.out i (by omega)), by first | rfl | trivial⟩
            case measure => simp [intOf]; omega
          · have hno := E3.out (fun hy => cx (hy x HWV.out))
            have HNO := Lib.hid hno
            clear hno E0 E5 E3
            by_cases x1 : x < 0
            · clear cx
              go_wp2
              go_ret2
              exact ⟨by rw [HNO.out.1, HNO.out.2]; rfl, by first | rfl | trivial⟩
            · have x2 : 100000 < x := by unfold okW at cx; omega
              clear cx
              go_wp2
              go_ret2
              exact ⟨by rw [HNO.out.1, HNO.out.2]; rfl, by first | rfl | trivial⟩
        · have ek : k = ws.length := by omega
          subst ek
          have hy : ∀ x ∈ ws, okW x := fun x hx => by
            obtain ⟨i, hi, rfl⟩ := List.getElem_of_mem hx
            rw [← wv_at hi]; exact hok.out i hi
          obtain ⟨s, hs⟩ : ∃ s, sumW ws ws.length = s := ⟨_, rfl⟩
          have e5 := E5.out hy; have e0 := E0.out hy
          rw [hs] at e5 e0 ⊢
          have HE5 := Lib.hid e5; have HE0 := Lib.hid e0
          clear e5 e0 hy hs HSU hok E0 E5 E3 hb
          by_cases c : s = 0
          · subst c
            go_wp2
            go_ret2
            exact ⟨by rw [(HE5.out trivial).1, (HE5.out trivial).2]; rfl, by first | rfl | trivial⟩
          · have hz : (s == 0) = false := beq_eq_false_iff_ne.2 c
            go_wp2
            go_ret2
            exact ⟨by rw [(HE0.out c).1, (HE0.out c).2]; rfl, by first | rfl | trivial⟩
end Sh
end Go.Proofs.Ytblbhkcnmkcdfaa
