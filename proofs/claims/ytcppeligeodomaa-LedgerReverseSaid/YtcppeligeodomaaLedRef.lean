/- Ledgers: the document's check of a posting. -/
import Derived.Test.YtcppeligeodomaaLedRev
import Derived.Test.YtcppeligeodomaaPenceRef2
set_option linter.unusedVariables false
namespace Go.Proofs.Ytcppeligeodomaa
open Go.RowKit
namespace Ld
open Pn
theorem has_take (a : Int) (ls : List Ln) (i : Nat) (hi : i ≤ ls.length) : has a (ls.take i) = false ↔ ∀ (q : Nat) (h : q < ls.length), q < i → ls[q].1 ≠ a := by
  rw [← Bool.not_eq_true, has_iff]
  constructor
  · intro h q hq hqi he
    refine h ⟨ls[q], ?_, he⟩
    rw [List.mem_iff_getElem]
    exact ⟨q, by simp; omega, by simp⟩
  · rintro h ⟨x, hx, he⟩
    obtain ⟨q, hq, rfl⟩ := List.getElem_of_mem hx
    rw [List.getElem_take] at he
    simp at hq
    exact h q (by omega) (by omega) he
set_option maxHeartbeats 4000000 in
theorem postingR_any (p : Po) (w : World) (h : RdN w p) : Calls Try.prog 48 #[aP p] w (IntQ (pchk p.pg) w) := by
  have hb0 := (br w).alloc (Nat.le_refl _) (.cells #[.int .i64 p.id, p.v] 42)
  have k1 : (w.alloc (.cells #[.int .i64 p.id, p.v] 42)).cell? ⟨w.heap.size, 1, none⟩ = some p.v := by rw [World.cell?_alloc_mark]; rfl
  have hp0 : RdN (w.alloc (.cells #[.int .i64 p.id, p.v] 42)) p := Rd.below h hb0
  obtain ⟨id, a, cap, ls⟩ := p
  show Calls Try.prog 48 #[.agg #[.int .i64 id, .slice a ls.length cap]] w (IntQ (pchk (id, ls)) w)
  simp only [Po.v] at hb0 k1 hp0
  obtain ⟨a', cap', e, h1, h2, h3⟩ := hp0
  injection e with e1 e2 e3
  subst e1 e3
  clear e2 h
  simp only at h1 h2 h3
  have H3 := Lib.hid h3; clear h3
  have HB0 := Lib.hid hb0; have K1 := Lib.hid k1
  have K0 : RowKit.Hid ((w.alloc (.cells #[.int .i64 id, .slice a ls.length cap] 42)).cell? ⟨w.heap.size, 0, none⟩ = some (.int .i64 id)) := Lib.hid (by rw [World.cell?_alloc_mark]; rfl)
  clear hb0 k1
  by_cases c1 : id < 1
  · have hF : pchk (id, ls) = 3 := by unfold pchk; rw [if_pos c1]
    have HF := Lib.hid hF; clear hF
    go_enter Try.func48, Try.ntmps48
    go_wp2
    go_ret
    exact ⟨by rw [HF.out]; rfl, (br _).alloc (Nat.le_refl _) _⟩
  by_cases c2 : ls.length < 2
  · have hF : pchk (id, ls) = 1 := by unfold pchk; rw [if_neg c1, if_pos c2]
    have HF := Lib.hid hF; clear hF
    have c2' : (ls.length : Int) < 2 := by omega
    go_enter Try.func48, Try.ntmps48
    go_wp2
    go_ret
    exact ⟨by rw [HF.out]; rfl, (br _).alloc (Nat.le_refl _) _⟩
  by_cases c3 : 6 < ls.length
  · have hF : pchk (id, ls) = 2 := by unfold pchk; rw [if_neg c1, if_neg c2, if_pos c3]
    have HF := Lib.hid hF; clear hF
    have c2' : ¬ (ls.length : Int) < 2 := by omega
    have c3' : (6 : Int) < (ls.length : Int) := by omega
    go_enter Try.func48, Try.ntmps48
    go_wp2
    go_ret
    exact ⟨by rw [HF.out]; rfl, (br _).alloc (Nat.le_refl _) _⟩
  have hF : pchk (id, ls) = lchk [] ls := by unfold pchk; rw [if_neg c1, if_neg c2, if_neg c3]
  have HF := Lib.hid hF; clear hF
  have c2' : ¬ (ls.length : Int) < 2 := by omega
  have c3' : ¬ (6 : Int) < (ls.length : Int) := by omega
  obtain ⟨W0, hW0⟩ : ∃ W0, w.alloc (.cells #[.int .i64 id, .slice a ls.length cap] 42) = W0 := ⟨_, rfl⟩
  rw [hW0] at H3 HB0 K1 K0
  have k0 := K0.out; have k1 := K1.out
  go_enter Try.func48, Try.ntmps48
  go_wp2
  clear hW0 k0 k1
  go_loopw [5, 4] (fun i s wr => ∃ k : Nat, k ≤ ls.length ∧ i = .int .i64 k ∧ s = .int .i64 (tot (ls.take k)) ∧ (∀ l ∈ ls.take k, isA l.2) ∧ pchk (id, ls) = lchk (ls.take k) (ls.drop k) ∧ Below W0.heap.size W0 wr) (fun i _ _ => ls.length - (intOf i).toNat)
  case atStart => exact ⟨0, Nat.zero_le _, rfl, rfl, by simp, HF.out, br _⟩
  case round =>
    obtain ⟨k, hk, rfl, rfl, hA, hch, hbw⟩ := hrel
    by_cases hlt : k < ls.length
    · obtain ⟨g, off, rfl, hbl, hc⟩ := H3.out (by omega)
      obtain ⟨q0, q1⟩ := eN_at hc k hlt
      have f1 := kp hbw K1.out
      have d0 := (hbw.cell (p := ⟨g, off + k * 2, none⟩) hbl).trans q0
      have d1 := (hbw.cell (p := ⟨g, off + k * 2 + 1, none⟩) hbl).trans q1
      have i1 : (k : Int) < (ls.length : Int) := by omega
      have i0 : (0 : Int) ≤ (k : Int) := by omega
      have hdrop : ls.drop k = ls[k] :: ls.drop (k + 1) := List.drop_eq_getElem_cons hlt
      have htake : ls.take (k + 1) = ls.take k ++ [ls[k]] := by rw [List.take_succ_eq_append_getElem hlt]
      rw [hdrop] at hch
      unfold lchk at hch
      rw [← htake] at hch
      have HBW := Lib.hid hbw
      have HTT := Lib.hid (show tot (ls.take (k + 1)) = tot (ls.take k) + ls[k].2 by rw [htake, tot_app]; simp [tot])
      have HA := Lib.hid hA
      have HTK := Lib.hid htake
      have htl := tot_le (ls.take k) hA
      have hlk : (ls.take k).length = k := by simp; omega
      rw [hlk] at htl
      have HHT := Lib.hid (has_take ls[k].1 ls k hk)
      have HH3 := H3
      have HC := Lib.hid hc
      clear hbw hc q0 q1 hdrop htake hA hlk H3 HF
      by_cases a1 : ls[k].1 < 1 ∨ 5 < ls[k].1
      · rw [if_pos a1] at hch
        have HCH := Lib.hid hch; clear hch HTT HA HTK htl HHT HC
        generalize ls[k].1 = ac at *; generalize ls[k].2 = pe at *; generalize tot (ls.take k) = tt at *
        rcases (show ac < 1 ∨ (1 ≤ ac ∧ 5 < ac) by omega) with a2 | ⟨a2, a3⟩
        · clear a1
          go_wp2
          go_ret
          exact ⟨by rw [HCH.out]; rfl, by first | exact HB0.out.trans (HBW.out.mono HB0.out.size) | exact bn (HB0.out.trans (HBW.out.mono HB0.out.size)) _⟩
        · clear a1
          go_wp2
          go_ret
          exact ⟨by rw [HCH.out]; rfl, by first | exact HB0.out.trans (HBW.out.mono HB0.out.size) | exact bn (HB0.out.trans (HBW.out.mono HB0.out.size)) _⟩
      rw [if_neg a1] at hch
      have b1 : ¬ ls[k].1 < 1 := fun h => a1 (.inl h)
      have b2 : ¬ 5 < ls[k].1 := fun h => a1 (.inr h)
      clear a1
      by_cases a2 : isA ls[k].2
      · have C1 := Lib.hid (fun w => noAmount_any ls[k].2 true w (decide_eq_true a2))
        by_cases a3 : ls[k].2 = 0
        · rw [if_pos (.inr a3)] at hch
          have HCH := Lib.hid hch; clear hch HTT HA HTK htl HHT HC
          generalize ls[k].1 = ac at *; generalize ls[k].2 = pe at *; generalize tot (ls.take k) = tt at *
          clear a2
          subst a3
          go_wp2_with fail
          (refine (C1.out _).mono ?_; rintro en w1 ⟨rfl, rfl⟩)
          go_wp2
          go_ret
          exact ⟨by rw [HCH.out]; rfl, by first | exact HB0.out.trans (HBW.out.mono HB0.out.size) | exact bn (HB0.out.trans (HBW.out.mono HB0.out.size)) _⟩
        · rw [if_neg (by intro h; rcases h with h | h; exact h a2; exact a3 h)] at hch
          have hw : IntKind.i64.wrap (tot (ls.take k) + ls[k].2) = tot (ls.take (k + 1)) := by
            rw [HTT.out]
            have := a2
            unfold isA at this
            exact IntWalk.i64_in _ (by omega)
          have HW := Lib.hid hw
          have HA2 := Lib.hid (show ∀ l ∈ ls.take (k + 1), isA l.2 by
            rw [HTK.out]; intro l hl
            rcases List.mem_append.1 hl with hl | hl
            · exact HA.out l hl
            · have : l = ls[k] := by simpa using hl
              rw [this]; exact a2)
          have HCH := Lib.hid hch
          have a3' : (ls[k].2 == 0) = false := by simp [a3]
          obtain ⟨ac, hac⟩ : ∃ ac, ls[k].1 = ac := ⟨_, rfl⟩
          obtain ⟨pe, hpe⟩ : ∃ pe, ls[k].2 = pe := ⟨_, rfl⟩
          rw [hac] at d0 b1 b2 HCH HHT
          rw [hpe] at d1 C1 HW a3'
          have HAC := Lib.hid hac; have HPE := Lib.hid hpe
          clear htl HTT HA HTK hw hch a2 a3 hac hpe
          generalize htt : tot (ls.take k) = tt at *
          have HT0 := Lib.hid htt; clear htt
          go_wp2_with fail
          (refine (C1.out _).mono ?_; rintro en w1 ⟨rfl, rfl⟩)
          go_wp2
          go_loopw [6] (fun i wy => ∃ j : Nat, j ≤ k ∧ i = .int .i64 j ∧ (∀ (q : Nat) (h : q < ls.length), q < j → ls[q].1 ≠ ac) ∧ Below W0.heap.size W0 wy) (fun i _ => k - (intOf i).toNat)
          case atStart => exact ⟨0, Nat.zero_le _, rfl, fun q hq h => by omega, by first | exact HBW.out | exact bn HBW.out _⟩
          case round =>
            obtain ⟨j, hj, rfl, hall, hby⟩ := hrel
            have HBY := Lib.hid hby
            by_cases hjk : j < k
            · obtain ⟨r0, r1⟩ := eN_at HC.out j (by omega)
              obtain ⟨r2, r3⟩ := eN_at HC.out k hlt
              rw [HAC.out] at r2
              have f2 := kp hby K1.out
              have g0 := (hby.cell (p := ⟨g, off + j * 2, none⟩) hbl).trans r0
              have g1 := (hby.cell (p := ⟨g, off + k * 2, none⟩) hbl).trans r2
              have i2 : (j : Int) < (k : Int) := by omega
              have i3 : (0 : Int) ≤ (j : Int) := by omega
              have i4 : (j : Int) < (ls.length : Int) := by omega
              clear r0 r1 r2 r3 hby d0 d1 f1
              by_cases he : ls[j].1 = ac
              · have hbt : (ls[j].1 == ac) = true := by simp [he]
                have hno : has ac (ls.take k) = true := by
                  refine Classical.byContradiction fun hc => ?_
                  have := HHT.out.1 (by simpa using hc) j (by omega) hjk
                  exact this he
                have hR := HCH.out
                rw [if_pos hno] at hR
                have HR := Lib.hid hR
                clear hR hno HCH HHT hall he
                generalize ls[j].1 = aj at *
                go_wp2_with fail
                go_quiet (fail)
                go_wp2
                go_ret
                exact ⟨by rw [HR.out]; rfl, by first | exact HB0.out.trans (HBY.out.mono HB0.out.size) | exact bn (HB0.out.trans (HBY.out.mono HB0.out.size)) _⟩
              · have hbt : (ls[j].1 == ac) = false := by simp [he]
                have hall2 : ∀ (q : Nat) (h : q < ls.length), q < j + 1 → ls[q].1 ≠ ac := fun q hq hqj => by
                  by_cases e : q = j
                  · subst e; exact he
                  · exact hall q hq (by omega)
                have HA3 := Lib.hid hall2
                clear hall2 hall he
                generalize ls[j].1 = aj at *
                go_wp2_with fail
                go_quiet (fail)
                go_wp2
                go_roundw
                case rel => exact ⟨j + 1, by omega, by go_num, HA3.out, by first | exact HBY.out | exact bn HBY.out _⟩
                case measure => simp [intOf]; omega
            · have e : j = k := by omega
              subst e
              have hno : has ac (ls.take j) = false := HHT.out.2 hall
              have hR := HCH.out
              rw [if_neg (by rw [hno]; simp)] at hR
              have HR := Lib.hid hR
              obtain ⟨r2, r3⟩ := eN_at HC.out j hlt
              rw [HPE.out] at r3
              have f2 := kp hby K1.out
              have g1 := (hby.cell (p := ⟨g, off + j * 2 + 1, none⟩) hbl).trans r3
              have hw := HW.out
              generalize htt2 : tot (ls.take (j + 1)) = tt2 at *
              have HT2 := Lib.hid htt2
              clear hR hno HCH HHT hall r2 r3 hby d0 d1 f1 htt2
              go_wp2
              go_roundw
              case rel => exact ⟨j + 1, by omega, by go_num, by rw [HT2.out], HA2.out, HR.out, by first | exact HBY.out | exact bn HBY.out _⟩
              case measure => simp [intOf]; omega
      · have C1 := Lib.hid (fun w => noAmount_any ls[k].2 false w (decide_eq_false a2))
        rw [if_pos (.inl a2)] at hch
        have HCH := Lib.hid hch; clear hch HTT HA HTK htl HHT HC a2
        generalize ls[k].1 = ac at *; generalize ls[k].2 = pe at *; generalize tot (ls.take k) = tt at *
        go_wp2_with fail
        (refine (C1.out _).mono ?_; rintro en w1 ⟨rfl, rfl⟩)
        go_wp2
        go_ret
        exact ⟨by rw [HCH.out]; rfl, by first | exact HB0.out.trans (HBW.out.mono HB0.out.size) | exact bn (HB0.out.trans (HBW.out.mono HB0.out.size)) _⟩
    · have hkk : k = ls.length := by omega
      subst hkk
      rw [List.take_length, List.drop_length] at hch
      rw [List.take_length]
      unfold lchk at hch
      have HBW := Lib.hid hbw
      by_cases c0 : tot ls = 0
      · rw [if_pos c0] at hch
        have HCH := Lib.hid hch
        clear hch H3
        rw [c0]
        go_wp2
        go_ret
        exact ⟨by rw [HCH.out]; rfl, HB0.out.trans (HBW.out.mono HB0.out.size)⟩
      · rw [if_neg c0] at hch
        have HCH := Lib.hid hch
        clear hch H3
        generalize tot ls = tt at *
        go_wp2
        go_ret
        exact ⟨by rw [HCH.out]; rfl, HB0.out.trans (HBW.out.mono HB0.out.size)⟩
end Ld
end Go.Proofs.Ytcppeligeodomaa
