/- Ledgers: a posting by itself. -/
import Derived.Test.YtcppeligeodomaaLedEl
import Derived.Test.YtcppeligeodomaaPenceWalks
import Derived.Deep.LoopGhost
set_option linter.unusedVariables false
namespace Go.Proofs.Ytcppeligeodomaa
open Go.RowKit
namespace Ld
open Pn
abbrev IntQ (n : Int) (w : World) (e : Ending) (w' : World) : Prop := e = .returned (.int .i64 n) ∧ Below w.heap.size w w'
abbrev BoolQ (b : Bool) (w : World) (e : Ending) (w' : World) : Prop := e = .returned (.bool b) ∧ Below w.heap.size w w'
def seen (d : List Ln) : List Value := [.bool (has 0 d), .bool (has 1 d), .bool (has 2 d), .bool (has 3 d), .bool (has 4 d), .bool (has 5 d)]
theorem seen_at (d : List Ln) (n : Nat) (h : n ≤ 5) : (seen d)[n]? = some (.bool (has (n : Int) d)) := by
  match n, h with
  | 0, _ => rfl
  | 1, _ => rfl
  | 2, _ => rfl
  | 3, _ => rfl
  | 4, _ => rfl
  | 5, _ => rfl
theorem seen_set (d : List Ln) (n : Nat) (h1 : 1 ≤ n) (h : n ≤ 5) (x : Ln) (hx : x.1 = (n : Int)) : (seen d).set n (.bool true) = seen (d ++ [x]) := by
  unfold seen
  simp only [has_app, hx]
  match n, h1, h with
  | 1, _, _ => simp
  | 2, _, _ => simp
  | 3, _, _ => simp
  | 4, _, _ => simp
  | 5, _, _ => simp
theorem seen_nil : seen [] = [.bool false, .bool false, .bool false, .bool false, .bool false, .bool false] := rfl
theorem tot_le (ls : List Ln) (h : ∀ l ∈ ls, isA l.2) : -(1099511627776 * (ls.length : Int)) ≤ tot ls ∧ tot ls ≤ 1099511627776 * (ls.length : Int) := by
  induction ls with
  | nil => simp [tot]
  | cons x ls ih =>
    have h1 := ih (fun l hl => h l (by simp [hl]))
    have h2 := h x (by simp)
    unfold isA at h2
    simp only [tot, List.length_cons]
    omega
set_option maxHeartbeats 4000000 in
theorem posting_any (p : Po) (w : World) (h : RdN w p) : Calls Try.prog 42 #[aP p] w (IntQ (pchk p.pg) w) := by
  obtain ⟨id, a, cap, ls⟩ := p
  obtain ⟨a', cap', e, h1, h2, h3⟩ := h
  injection e with e1 e2 e3
  subst e1 e3
  clear e2
  simp only at h1 h2 h3
  have H3 := Lib.hid h3; clear h3
  by_cases c1 : id < 1
  · have hF : pchk (id, ls) = 3 := by unfold pchk; rw [if_pos c1]
    have HF := Lib.hid hF; clear hF
    show Calls Try.prog 42 #[.agg #[.int .i64 id, .slice a ls.length cap]] w _
    go_enter Try.func42, Try.ntmps42
    go_wp2
    go_ret
    exact ⟨by rw [HF.out]; rfl, (br _).alloc (Nat.le_refl _) _⟩
  by_cases c2 : ls.length < 2
  · have hF : pchk (id, ls) = 1 := by unfold pchk; rw [if_neg c1, if_pos c2]
    have HF := Lib.hid hF; clear hF
    have c2' : (ls.length : Int) < 2 := by omega
    show Calls Try.prog 42 #[.agg #[.int .i64 id, .slice a ls.length cap]] w _
    go_enter Try.func42, Try.ntmps42
    go_wp2
    go_ret
    exact ⟨by rw [HF.out]; rfl, (br _).alloc (Nat.le_refl _) _⟩
  by_cases c3 : 6 < ls.length
  · have hF : pchk (id, ls) = 2 := by unfold pchk; rw [if_neg c1, if_neg c2, if_pos c3]
    have HF := Lib.hid hF; clear hF
    have c2' : ¬ (ls.length : Int) < 2 := by omega
    have c3' : (6 : Int) < (ls.length : Int) := by omega
    show Calls Try.prog 42 #[.agg #[.int .i64 id, .slice a ls.length cap]] w _
    go_enter Try.func42, Try.ntmps42
    go_wp2
    go_ret
    exact ⟨by rw [HF.out]; rfl, (br _).alloc (Nat.le_refl _) _⟩
  have hF : pchk (id, ls) = lchk [] ls := by unfold pchk; rw [if_neg c1, if_neg c2, if_neg c3]
  have HF := Lib.hid hF; clear hF
  have c2' : ¬ (ls.length : Int) < 2 := by omega
  have c3' : ¬ (6 : Int) < (ls.length : Int) := by omega
  show Calls Try.prog 42 #[.agg #[.int .i64 id, .slice a ls.length cap]] w _
  go_enter Try.func42, Try.ntmps42
  go_wp2
  go_loopw [24, 4] (fun i s wr => ∃ k : Nat, k ≤ ls.length ∧ i = .int .i64 k ∧ s = .int .i64 (tot (ls.take k)) ∧ (∀ l ∈ ls.take k, isA l.2) ∧ pchk (id, ls) = lchk (ls.take k) (ls.drop k) ∧ Box wr (w.heap.size + 1) 75 (seen (ls.take k)) ∧ Below w.heap.size w wr) (fun i _ _ => ls.length - (intOf i).toNat)
  case atStart =>
    refine ⟨0, Nat.zero_le _, rfl, rfl, by simp, HF.out, ?_, ((br _).alloc (Nat.le_refl _) _).alloc (by simp) _⟩
    have := Box.new (w.alloc (.cells #[.int .i64 id, .slice a ls.length cap] 42)) 75 (seen [])
    simpa [seen_nil] using this
  case round =>
    obtain ⟨k, hk, rfl, rfl, hA, hch, hbox, hbw⟩ := hrel
    by_cases hlt : k < ls.length
    · obtain ⟨g, off, rfl, hbl, hc⟩ := H3.out (by omega)
      obtain ⟨q0, q1⟩ := eN_at hc k hlt
      have d0 := (hbw.cell (p := ⟨g, off + k * 2, none⟩) hbl).trans q0
      have d1 := (hbw.cell (p := ⟨g, off + k * 2 + 1, none⟩) hbl).trans q1
      have i1 : (k : Int) < (ls.length : Int) := by omega
      have i0 : (0 : Int) ≤ (k : Int) := by omega
      have hdrop : ls.drop k = ls[k] :: ls.drop (k + 1) := List.drop_eq_getElem_cons hlt
      have htake : ls.take (k + 1) = ls.take k ++ [ls[k]] := by rw [List.take_succ_eq_append_getElem hlt]
      rw [hdrop] at hch
      unfold lchk at hch
      rw [← htake] at hch
      have HBW := Lib.hid hbw; have HBOX := Lib.hid hbox
      have HTT := Lib.hid (show tot (ls.take (k + 1)) = tot (ls.take k) + ls[k].2 by rw [htake, tot_app]; simp [tot])
      have HA := Lib.hid hA
      have HSS := Lib.hid (fun n h1 h => seen_set (ls.take k) n h1 h ls[k])
      have HSA := Lib.hid (seen_at (ls.take k))
      have HTK := Lib.hid htake
      have htl := tot_le (ls.take k) hA
      have hlk : (ls.take k).length = k := by simp; omega
      rw [hlk] at htl
      clear hbw hbox hc q0 q1 hdrop htake hA hlk H3 HF
      by_cases a1 : ls[k].1 < 1 ∨ 5 < ls[k].1
      · rw [if_pos a1] at hch
        have HCH := Lib.hid hch; clear hch HTT HA HSS HSA HTK htl
        generalize ls[k].1 = ac at *; generalize ls[k].2 = pe at *; generalize tot (ls.take k) = tt at *
        rcases (show ac < 1 ∨ (1 ≤ ac ∧ 5 < ac) by omega) with a2 | ⟨a2, a3⟩
        · clear a1
          go_wp2
          go_ret
          exact ⟨by rw [HCH.out]; rfl, by first | exact HBW.out | exact HBW.out.alloc HBW.out.size _ | exact bn (HBW.out.alloc HBW.out.size _) _⟩
        · clear a1
          go_wp2
          go_ret
          exact ⟨by rw [HCH.out]; rfl, by first | exact HBW.out | exact HBW.out.alloc HBW.out.size _ | exact bn (HBW.out.alloc HBW.out.size _) _⟩
      rw [if_neg a1] at hch
      have b1 : ¬ ls[k].1 < 1 := fun h => a1 (.inl h)
      have b2 : ¬ 5 < ls[k].1 := fun h => a1 (.inr h)
      clear a1
      by_cases a2 : isA ls[k].2
      · have C1 := Lib.hid (fun w => is_any ls[k].2 true w (by simp [a2]))
        by_cases a3 : ls[k].2 = 0
        · rw [if_pos (.inr a3)] at hch
          have HCH := Lib.hid hch; clear hch HTT HA HSS HSA HTK htl
          generalize ls[k].1 = ac at *; generalize ls[k].2 = pe at *; generalize tot (ls.take k) = tt at *
          clear a2
          subst a3
          go_wp2_with fail
          (refine (C1.out _).mono ?_; rintro en w1 ⟨rfl, rfl⟩)
          go_wp2
          go_ret
          exact ⟨by rw [HCH.out]; rfl, by first | exact HBW.out | exact HBW.out.alloc HBW.out.size _ | exact bn (HBW.out.alloc HBW.out.size _) _⟩
        · rw [if_neg (by intro h; rcases h with h | h; exact h a2; exact a3 h)] at hch
          obtain ⟨n, hn⟩ : ∃ n : Nat, ls[k].1 = (n : Int) := ⟨ls[k].1.toNat, by omega⟩
          have hs := HBOX.out.alloc (.cells #[.int .i64 ls[k].1, .int .i64 ls[k].2] 62)
          have hcell := hs.cell n
          rw [HSA.out n (by omega)] at hcell
          have hfro := hs.froz n
          rw [hn] at hch b1 b2 d0 hcell hfro
          have n0 : (0 : Int) ≤ (n : Int) := by omega
          have n1 : (n : Int) < 6 := by omega
          have hw : IntKind.i64.wrap (tot (ls.take k) + ls[k].2) = tot (ls.take (k + 1)) := by
            rw [HTT.out]
            have := a2
            unfold isA at this
            exact IntWalk.i64_in _ (by omega)
          have HA2 := Lib.hid (show ∀ l ∈ ls.take (k + 1), isA l.2 by
            rw [HTK.out]; intro l hl
            rcases List.mem_append.1 hl with hl | hl
            · exact HA.out l hl
            · have : l = ls[k] := by simpa using hl
              rw [this]; exact a2)
          have HB1 := Lib.hid (show ∀ W : World, Box W (w.heap.size + 1) 75 (seen (ls.take k)) → Box (W.setCell ⟨w.heap.size + 1, n, none⟩ (.bool true)) (w.heap.size + 1) 75 (seen (ls.take (k + 1))) by
            intro W hW
            have := hW.set n (.bool true)
            rw [HSS.out n (by omega) (by omega) hn, ← HTK.out] at this
            exact this)
          have HS := Lib.hid hs
          clear htl HTT HA HSS HSA HTK hs a2
          by_cases a4 : has (n : Int) (ls.take k) = true
          · rw [if_pos a4] at hch
            have HCH := Lib.hid hch
            rw [a4] at hcell
            clear hch a4 hw HA2 HB1 HS
            clear hn
            generalize ls[k].2 = pe at *; generalize tot (ls.take k) = tt at *
            go_wp2_with fail
            (refine (C1.out _).mono ?_; rintro en w1 ⟨rfl, rfl⟩)
            go_wp2
            go_ret
            exact ⟨by rw [HCH.out]; rfl, by first | exact HBW.out | exact HBW.out.alloc HBW.out.size _ | exact bn (HBW.out.alloc HBW.out.size _) _⟩
          · rw [if_neg a4] at hch
            have HCH := Lib.hid hch
            have a5 : has (n : Int) (ls.take k) = false := by simpa using a4
            rw [a5] at hcell
            clear hch a4 a5
            rw [hn] at HS
            generalize htt2 : tot (ls.take (k + 1)) = tt2 at *
            have HT2 := Lib.hid htt2; clear htt2
            generalize ls[k].1 = ac at *; generalize ls[k].2 = pe at *; generalize tot (ls.take k) = tt at *
            subst hn
            have e1 : ((wr.alloc (.cells #[.int .i64 (n : Int), .int .i64 pe] 62)).setCell ⟨w.heap.size + 1, n, none⟩ (.bool true)).cell? ⟨wr.heap.size, 1, none⟩ = some (.int .i64 pe) := by
              rw [World.cell?_setCell_other _ _ _ _ (by intro e; injection e with e; have := HBOX.out.lt; omega), World.cell?_alloc_mark]; rfl
            go_wp2_with fail
            (refine (C1.out _).mono ?_; rintro en w1 ⟨rfl, rfl⟩)
            go_wp2
            go_roundw
            case rel => exact ⟨k + 1, by omega, by go_num, by rw [HT2.out], HA2.out, HCH.out, HB1.out _ HS.out, (HBW.out.alloc HBW.out.size _).setCell (by simp) _⟩
            case measure => simp [intOf]; omega
      · have C1 := Lib.hid (fun w => is_any ls[k].2 false w (by simp [a2]))
        rw [if_pos (.inl a2)] at hch
        have HCH := Lib.hid hch; clear hch HTT HA HSS HSA HTK htl
        generalize ls[k].1 = ac at *; generalize ls[k].2 = pe at *; generalize tot (ls.take k) = tt at *
        go_wp2_with fail
        (refine (C1.out _).mono ?_; rintro en w1 ⟨rfl, rfl⟩)
        go_wp2
        go_ret
        exact ⟨by rw [HCH.out]; rfl, by first | exact HBW.out | exact HBW.out.alloc HBW.out.size _ | exact bn (HBW.out.alloc HBW.out.size _) _⟩
    · have hkk : k = ls.length := by omega
      subst hkk
      rw [List.take_length, List.drop_length] at hch
      rw [List.take_length]
      unfold lchk at hch
      by_cases c0 : tot ls = 0
      · rw [if_pos c0] at hch
        have HCH := Lib.hid hch
        clear hch H3
        rw [c0]
        go_wp2
        go_ret
        exact ⟨by rw [HCH.out]; rfl, hbw⟩
      · rw [if_neg c0] at hch
        have HCH := Lib.hid hch
        clear hch H3
        generalize tot ls = tt at *
        go_wp2
        go_ret
        exact ⟨by rw [HCH.out]; rfl, hbw⟩
end Ld
end Go.Proofs.Ytcppeligeodomaa
