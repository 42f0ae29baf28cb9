/- Jefferson's way: the document's. -/
import Derived.Test.YtblbhkcnmkcdfaaJeffM
set_option linter.unusedSimpArgs false
set_option linter.unusedVariables false
namespace Go.Proofs.Ytblbhkcnmkcdfaa
open Go.RowKit
namespace Sh
open Stb
theorem best_succ (ws : List Int) (hs : Nat → Int) (k : Nat) : best ws hs (k + 1) = if wv ws (k + 1) * (hs (best ws hs k) + 1) > wv ws (best ws hs k) * (hs (k + 1) + 1) then k + 1 else best ws hs k := rfl
theorem jf_set (ws : List Int) (n s : Nat) : (vals (lst n (jf ws n s))).set (best ws (jf ws n s) (n - 1)) (.int .i64 (jf ws n s (best ws (jf ws n s) (n - 1)) + 1)) = vals (lst n (jf ws n (s + 1))) := by
  rw [lst_set]
  congr 1
  exact lst_congr (fun i _ => by
    simp only [jf]
    by_cases c : i = best ws (jf ws n s) (n - 1)
    · rw [if_pos c, if_pos c, ← c]
    · rw [if_neg c, if_neg c])
set_option maxRecDepth 100000 in
set_option maxHeartbeats 4000000 in
theorem jefOf_bad (v : Value) (t : Int) (ws : List Int) (w : World) (h : RdE elZ w v ws) (he : allE t ws ≠ 0) : Calls Try.prog 15 #[.int .i64 t, v] w (PairZ (jefR t ws) (allE t ws) w) := by
  have hr : jefR t ws = [] := by unfold jefR; rw [if_neg he]
  rw [hr]
  have HA := Lib.hid (weights_any v t ws w h)
  have hne : (allE t ws != 0) = true := by simp [he]
  obtain ⟨a, cap, rfl, _, _, _⟩ := h
  generalize allE t ws = er at *
  generalize allS t ws = es at *
  clear hr he
  have HOW : RowKit.Hid (ROwn elZ w w.heap.size (.slice none 0 0) []) := Lib.hid (ROwn.nil _ _)
  have HBR := Lib.hid (br w)
  go_enter Try.func15, Try.ntmps15
  go_wp2_with fail
  refine HA.out.mono ?_
  rintro en w1 ⟨rfl, rfl⟩
  go_wp2
  go_ret2
  exact ⟨_, rfl, HOW.out, HBR.out⟩
set_option maxRecDepth 100000 in
set_option maxHeartbeats 8000000 in
theorem jefOf_good (v : Value) (t : Int) (ws : List Int) (w : World) (h : RdE elZ w v ws) (he : allE t ws = 0) : Calls Try.prog 15 #[.int .i64 t, v] w (PairZ (jefR t ws) (allE t ws) w) := by
  obtain ⟨q1, q2, q3, q4, q5, q6⟩ := allE_ok he
  have hn0 := len_pos he
  have HA := Lib.hid (weights_any v t ws w h)
  have HBD := Lib.hid (bds_of he)
  have HEND : RowKit.Hid (jefR t ws = lst ws.length (jf ws ws.length t.toNat)) := Lib.hid (by unfold jefR; rw [if_pos he])
  obtain ⟨a, cap, rfl, _, _, h3⟩ := h
  obtain ⟨gw, ow, rfl, hgl, hc⟩ := h3 hn0
  have HCW : RowKit.Hid (∀ i, i < ws.length → w.cell? ⟨gw, ow + i, none⟩ = some (.int .i64 (wv ws i))) := Lib.hid (fun i hi => by rw [wv_at hi]; exact eI_at hc i hi)
  have M1 := fun w => make_intsZ w ws.length (by omega)
  generalize jefR t ws = R at *
  rw [he] at HA ⊢
  obtain ⟨T, rfl⟩ : ∃ T : Nat, t = T := ⟨t.toNat, by omega⟩
  rw [Int.toNat_natCast] at HEND
  generalize allS (T : Int) ws = es at *
  clear he q6 h3 hc q4 q5
  have HBX : RowKit.Hid (Box (w.alloc (.cells (Array.replicate ws.length (.int .i64 0)) 3)) w.heap.size 3 (vals (lst ws.length (jf ws ws.length 0)))) := Lib.hid (by
    have e2 : lst ws.length (jf ws ws.length 0) = List.replicate ws.length 0 := by
      apply List.ext_getElem
      · simp [lst]
      · intro i h1 h2
        simp [lst, jf]
    have := Box.new w 3 (vals (List.replicate ws.length 0))
    rw [e2]
    simpa [vals] using this)
  have HB0 := Lib.hid ((br w).alloc (Nat.le_refl _) (.cells (Array.replicate ws.length (.int .i64 0)) 3))
  go_enter Try.func15, Try.ntmps15
  go_wp2_with fail
  refine HA.out.mono ?_
  rintro en w1 ⟨rfl, rfl⟩
  go_wp2
  go_loopw [9] (fun s9 wr => ∃ s : Nat, s ≤ T ∧ s9 = .int .i64 s ∧ Box wr w.heap.size 3 (vals (lst ws.length (jf ws ws.length s))) ∧ Below w.heap.size w wr) (fun s9 _ => T - (intOf s9).toNat)
  case atStart => exact ⟨0, Nat.zero_le _, rfl, HBX.out, HB0.out⟩
  case round =>
    obtain ⟨s, hs, rfl, hbx, hbw⟩ := hrel
    have HBW := Lib.hid hbw; have HB := Lib.hid hbx
    by_cases hlt : s < T
    · have hB := HBD.out s (by omega)
      have HBB := Lib.hid hB
      have HJS := Lib.hid (jf_set ws ws.length s)
      have i1 : (s : Int) < (T : Int) := by omega
      obtain ⟨hs', hh⟩ : ∃ hs', jf ws ws.length s = hs' := ⟨_, rfl⟩
      rw [hh] at HB HBB HJS
      clear hB hbx hbw hh
      obtain ⟨wb, rfl⟩ : ∃ wb, wb = wr := ⟨_, rfl⟩
      go_wp2
      go_loopw [10, 11] (fun s10 s11 wy => ∃ k : Nat, k + 1 ≤ ws.length ∧ s11 = .int .i64 ((k + 1 : Nat) : Int) ∧ s10 = .int .i64 (best ws hs' k) ∧ ∃ q, wy = wb.drewN q) (fun _ s11 _ => ws.length - (intOf s11).toNat)
      case atStart => exact ⟨0, by omega, rfl, rfl, 0, rfl⟩
      case round =>
        obtain ⟨k, hk, rfl, rfl, q, rfl⟩ := hrel
        have hbl := best_le ws hs' k
        by_cases hlt2 : k + 1 < ws.length
        · have d1 := (HBW.out.cell (p := ⟨gw, ow + (k + 1), none⟩) hgl).trans (HCW.out (k + 1) hlt2)
          have d2 := (HBW.out.cell (p := ⟨gw, ow + best ws hs' k, none⟩) hgl).trans (HCW.out (best ws hs' k) (by omega))
          have o1 := box_at HB.out (k + 1) hlt2
          have o2 := box_at HB.out (best ws hs' k) (by omega)
          have HBS := Lib.hid (best_succ ws hs' k)
          have bw1 := HBB.out.w (k + 1); have bw2 := HBB.out.w (best ws hs' k)
          have bh1 := HBB.out.h (best ws hs' k); have bh2 := HBB.out.h (k + 1)
          obtain ⟨b, hb⟩ : ∃ b, best ws hs' k = b := ⟨_, rfl⟩
          rw [hb] at d2 o2 HBS bw2 bh1 hbl ⊢
          clear hb
          obtain ⟨x1, hx1⟩ : ∃ x, wv ws (k + 1) = x := ⟨_, rfl⟩
          obtain ⟨x2, hx2⟩ : ∃ x, wv ws b = x := ⟨_, rfl⟩
          obtain ⟨h1, hh1⟩ : ∃ x, hs' b = x := ⟨_, rfl⟩
          obtain ⟨h2, hh2⟩ : ∃ x, hs' (k + 1) = x := ⟨_, rfl⟩
          rw [hx1] at d1 HBS bw1; rw [hx2] at d2 HBS bw2; rw [hh1] at o2 HBS bh1; rw [hh2] at o1 HBS bh2
          clear hx1 hx2 hh1 hh2
          obtain ⟨P, hP⟩ : ∃ P, x1 * (h1 + 1) = P := ⟨_, rfl⟩
          obtain ⟨Q, hQ⟩ : ∃ Q, x2 * (h2 + 1) = Q := ⟨_, rfl⟩
          rw [hP, hQ] at HBS
          have hPb : 0 ≤ P ∧ P ≤ 10000100000 := by
            rw [← hP]
            refine ⟨Int.mul_nonneg bw1.1 (by omega), ?_⟩
            have h1 : x1 * (h1 + 1) ≤ 100000 * (h1 + 1) := Int.mul_le_mul_of_nonneg_right bw1.2 (by omega)
            omega
          have hQb : 0 ≤ Q ∧ Q ≤ 10000100000 := by
            rw [← hQ]
            refine ⟨Int.mul_nonneg bw2.1 (by omega), ?_⟩
            have h1 : x2 * (h2 + 1) ≤ 100000 * (h2 + 1) := Int.mul_le_mul_of_nonneg_right bw2.2 (by omega)
            omega
          have w1 : IntKind.i64.wrap (h1 + 1) = h1 + 1 := IntWalk.i64_in _ (by omega)
          have w2 : IntKind.i64.wrap (h2 + 1) = h2 + 1 := IntWalk.i64_in _ (by omega)
          have w3 : IntKind.i64.wrap (x1 * (h1 + 1)) = P := by rw [hP]; exact IntWalk.i64_in _ (by omega)
          have w4 : IntKind.i64.wrap (x2 * (h2 + 1)) = Q := by rw [hQ]; exact IntWalk.i64_in _ (by omega)
          have j1 : ((k + 1 : Nat) : Int) < (ws.length : Int) := by omega
          have j0 : (0 : Int) ≤ ((k + 1 : Nat) : Int) := by omega
          have j2 : (b : Int) < (ws.length : Int) := by omega
          have j3 : (0 : Int) ≤ (b : Int) := by omega
          have HK2 : RowKit.Hid (((k + 1 : Nat) : Int) + 1 = ((k + 1 + 1 : Nat) : Int)) := Lib.hid (by omega)
          clear hP hQ
          obtain ⟨m, hm⟩ : ∃ m, k + 1 = m := ⟨_, rfl⟩
          rw [hm] at d1 o1 HBS j1 j0 HK2 ⊢
          have HM := Lib.hid hm
          have hmb : m ≤ 32 := by omega
          clear hm
          by_cases c : P > Q
          · have e := HBS.out
            rw [if_pos c] at e
            have HE := Lib.hid e
            clear e HBS
            go_wp2_with fail
            go_quiet (fail)
            go_wp2
            go_roundw
            case rel => exact ⟨m, by omega, by rw [← HK2.out], by rw [HE.out], _, by first | rfl | (rw [World.drewN_drewN])⟩
            case measure => simp [intOf]; omega
          · have e := HBS.out
            rw [if_neg c] at e
            have HE := Lib.hid e
            clear e HBS
            go_wp2_with fail
            go_quiet (fail)
            go_wp2
            go_roundw
            case rel => exact ⟨m, by omega, by rw [← HK2.out], by rw [HE.out], _, by first | rfl | (rw [World.drewN_drewN])⟩
            case measure => simp [intOf]; omega
        · have ek : k = ws.length - 1 := by omega
          subst ek
          have hbn : best ws hs' (ws.length - 1) < ws.length := by omega
          have hbx2 := HB.out.dr q
          have o0 := box_at hbx2 _ hbn
          have o1 := hbx2.froz (best ws hs' (ws.length - 1))
          have HSET := Lib.hid (hbx2.set (best ws hs' (ws.length - 1)) (.int .i64 (hs' (best ws hs' (ws.length - 1)) + 1)))
          rw [HJS.out] at HSET
          have HBW2 := Lib.hid ((HBW.out.trans ((bn (br wb) q).mono HBW.out.size)).setCell (p := ⟨w.heap.size, best ws hs' (ws.length - 1), none⟩) (Nat.le_refl _) (.int .i64 (hs' (best ws hs' (ws.length - 1)) + 1)))
          have bh := HBB.out.h (best ws hs' (ws.length - 1))
          have hln : ((ws.length - 1 + 1 : Nat) : Int) = (ws.length : Int) := by omega
          rw [hln]
          clear hbx2 hln
          generalize hs' (best ws hs' (ws.length - 1)) = y at *
          generalize best ws hs' (ws.length - 1) = b at *
          have j2 : (b : Int) < (ws.length : Int) := by omega
          have j3 : (0 : Int) ≤ (b : Int) := by omega
          obtain ⟨bh0, bh1⟩ := bh
          go_wp2
          go_roundw
          case rel => exact ⟨s + 1, by omega, by go_num, HSET.out, HBW2.out⟩
          case measure => simp [intOf]; omega
    · have ek : s = T := by omega
      subst ek
      rw [← HEND.out] at hbx
      have hRl : R.length = ws.length := by rw [HEND.out]; exact lst_len _ _
      have hown := own_of_box (base := w.heap.size) hbx (Nat.le_refl _) (by rw [hRl]; unfold maxLen; omega)
      rw [hRl] at hown
      have HOWF := Lib.hid hown
      clear hown hbx hbw hRl
      go_wp2
      go_ret2
      exact ⟨_, rfl, HOWF.out, HBW.out⟩
theorem jef_any (v : Value) (t : Int) (ws : List Int) (w : World) (h : RdE elZ w v ws) : Calls Try.prog 12 #[.int .i64 t, v] w (PairZ (jefR t ws) (allE t ws) w) := by
  by_cases he : allE t ws = 0
  · exact jef_good v t ws w h he
  · exact jef_bad v t ws w h he
theorem jefOf_any (v : Value) (t : Int) (ws : List Int) (w : World) (h : RdE elZ w v ws) : Calls Try.prog 15 #[.int .i64 t, v] w (PairZ (jefR t ws) (allE t ws) w) := by
  by_cases he : allE t ws = 0
  · exact jefOf_good v t ws w h he
  · exact jefOf_bad v t ws w h he
end Sh
end Go.Proofs.Ytblbhkcnmkcdfaa
