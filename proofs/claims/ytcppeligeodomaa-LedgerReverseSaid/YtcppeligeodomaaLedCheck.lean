/- Ledgers: is a ledger right? -/
import Derived.Test.YtcppeligeodomaaLedAt
set_option linter.unusedVariables false
namespace Go.Proofs.Ytcppeligeodomaa
open Go.RowKit
namespace Ld
theorem hasI_pg (id : Int) (ps : List Po) : hasI id (pgs ps) = decide (0 ≤ findI (isP id) ps) := by
  rw [Bool.eq_iff_iff, decide_eq_true_eq]
  have h := findI_neg (isP id) ps
  constructor
  · intro h1
    rcases Int.lt_or_le (findI (isP id) ps) 0 with h2 | h2
    · have h3 := h.1 h2
      obtain ⟨x, hx, he⟩ := (hasI_iff _ _).1 h1
      obtain ⟨p, hp, rfl⟩ := List.mem_map.1 hx
      have := h3 p hp
      unfold isP at this
      simp at this
      exact absurd he this
    · exact h2
  · intro h1
    refine Classical.byContradiction fun hc => ?_
    have := h.2 (fun p hp => by
      unfold isP
      refine decide_eq_false fun he => hc ((hasI_iff _ _).2 ⟨p.pg, List.mem_map.2 ⟨p, hp, rfl⟩, he⟩))
    omega
set_option maxHeartbeats 2000000 in
theorem check_any (v : Value) (ps : List Po) (w : World) (h : RdL w v ps) : Calls Try.prog 34 #[v] w (IntQ (chk (pgs ps)) w) := by
  obtain ⟨hr, hls⟩ := h
  have HR := Lib.hid hr
  obtain ⟨a, cap, rfl, h1, h2, h3⟩ := hr
  by_cases hl : 100 < ps.length
  · have hF : chk (pgs ps) = 2 := by unfold chk; rw [if_pos (by simpa using hl)]
    have HF := Lib.hid hF; clear hF h3
    have hl' : (100 : Int) < (ps.length : Int) := by omega
    go_enter Try.func34, Try.ntmps34
    go_wp2
    go_ret
    exact ⟨by rw [HF.out]; rfl, br _⟩
  have hF : chk (pgs ps) = gchk [] (pgs ps) := by unfold chk; rw [if_neg (by simpa using hl)]
  have HF := Lib.hid hF; clear hF
  have H3 := Lib.hid h3; clear h3
  have HLS := Lib.hid hls; clear hls
  have hl' : ¬ (100 : Int) < (ps.length : Int) := by omega
  go_enter Try.func34, Try.ntmps34
  go_wp2
  go_loopw [11] (fun i wr => ∃ k : Nat, k ≤ ps.length ∧ i = .int .i64 k ∧ chk (pgs ps) = gchk (pgs (ps.take k)) (pgs (ps.drop k)) ∧ Below w.heap.size w wr) (fun i _ => ps.length - (intOf i).toNat)
  case atStart => exact ⟨0, Nat.zero_le _, rfl, HF.out, br _⟩
  case round =>
    obtain ⟨k, hk, rfl, hch, hbw⟩ := hrel
    by_cases hlt : k < ps.length
    · obtain ⟨g, off, rfl, hbl, hc⟩ := H3.out (by omega)
      obtain ⟨q0, q1⟩ := eP_at hc k hlt
      have d0 := (hbw.cell (p := ⟨g, off + k * 2, none⟩) hbl).trans q0
      have d1 := (hbw.cell (p := ⟨g, off + k * 2 + 1, none⟩) hbl).trans q1
      have i1 : (k : Int) < (ps.length : Int) := by omega
      have i0 : (0 : Int) ≤ (k : Int) := by omega
      have i2 : (k : Int) ≤ (cap : Int) := by omega
      have hdrop : pgs (ps.drop k) = ps[k].pg :: pgs (ps.drop (k + 1)) := by rw [List.drop_eq_getElem_cons hlt]; rfl
      have htake : pgs (ps.take (k + 1)) = pgs (ps.take k) ++ [ps[k].pg] := by rw [List.take_succ_eq_append_getElem hlt]; exact List.map_append
      rw [hdrop] at hch
      unfold gchk at hch
      rw [← htake] at hch
      have hP := rd_pre HR.out k (by omega)
      have HP := Lib.hid (hP.below hbw)
      have CP := Lib.hid (fun w' (hb : Below w.heap.size w w') => posting_any ps[k] w' ((HLS.out _ (List.getElem_mem hlt)).below hb))
      have HBW := Lib.hid hbw
      have HHI := Lib.hid (hasI_pg ps[k].id (ps.take k))
      clear hc q0 q1 hdrop htake hP H3 HLS HR HF
      have k0 : (wr.alloc (.cells #[.int .i64 ps[k].id, ps[k].v] 42)).cell? ⟨wr.heap.size, 0, none⟩ = some (.int .i64 ps[k].id) := by rw [World.cell?_alloc_mark]; rfl
      by_cases c1 : pchk ps[k].pg ≠ 0
      · rw [if_pos c1] at hch
        have HCH := Lib.hid hch
        have hn : (pchk ps[k].pg != 0) = true := by simpa using c1
        clear hch hbw c1 k0 HHI HP
        unfold aP Po.v at CP
        unfold Po.v at d1
        generalize pchk ps[k].pg = ec at *
        generalize ps[k].id = t at *
        generalize ps[k].a = pa at *; generalize ps[k].ls.length = pl at *; generalize ps[k].cap = pc at *
        go_wp2_with fail
        refine (CP.out _ (HBW.out.alloc HBW.out.size _)).mono ?_
        rintro en w3 ⟨rfl, hb3⟩
        go_wp2
        go_ret
        exact ⟨by rw [HCH.out]; rfl, (HBW.out.alloc HBW.out.size _).trans (hb3.mono (by have := HBW.out.size; simp; omega))⟩
      · rw [if_neg c1] at hch
        have c2 : pchk ps[k].pg = 0 := by simpa using c1
        rw [c2] at CP
        have CA := Lib.hid (fun v w' h => at_any ps[k].id v (ps.take k) w' h)
        have hpg : ps[k].pg.1 = ps[k].id := rfl
        rw [hpg, HHI.out] at hch
        have hge : decide (findI (isP ps[k].id) (ps.take k) ≥ 0) = decide (0 ≤ findI (isP ps[k].id) (ps.take k)) := rfl
        have hkl : (ps.take k).length = k := by simp; omega
        have HKL := Lib.hid hkl
        clear hbw c1 c2 hpg HHI hkl
        unfold aP Po.v at CP
        unfold Po.v at d1 k0
        generalize findI (isP ps[k].id) (ps.take k) = fi at *
        generalize ps[k].id = t at *
        generalize ps[k].a = pa at *; generalize ps[k].ls.length = pl at *; generalize ps[k].cap = pc at *
        have HK0 := Lib.hid k0
        clear k0
        by_cases c3 : 0 ≤ fi
        · rw [decide_eq_true c3, if_pos rfl] at hch
          have HCH := Lib.hid hch
          clear hch
          go_wp2_with fail
          refine (CP.out _ (HBW.out.alloc HBW.out.size _)).mono ?_
          rintro en w3 ⟨rfl, hb3⟩
          have HB3 := Lib.hid hb3
          have e0 := kp hb3 HK0.out
          have HW3 : RowKit.Hid (Below w.heap.size w w3) := Lib.hid ((HBW.out.alloc HBW.out.size _).trans (hb3.mono (by have := HBW.out.size; simp; omega)))
          have HP3 := Lib.hid (HP.out.below (((br wr).alloc (Nat.le_refl _) (.cells #[.int .i64 t, .slice pa pl pc] 42)).trans (hb3.mono (by simp))))
          have hge : (fi ≥ 0) = (0 ≤ fi) := rfl
          clear hb3
          go_wp2_with fail
          go_region_held3 (fun w' => w'.cell? ⟨wr.heap.size, 0, none⟩ = some (.int .i64 t))
            (first | exact kp b2 e0 | go_keep | fail)
            (first | (go_at_call 43; (with_reducible refine (CA.out _ _ (by first | exact HP3.out | exact rdE_dr HP3.out)).mono ?_); rintro en w4 ⟨rfl, b2⟩))
          go_wp2
          go_ret
          exact ⟨by rw [HCH.out]; rfl, by first | exact bt HW3.out b2 | exact bd HW3.out b2⟩
        · rw [decide_eq_false c3, if_neg (by simp)] at hch
          have HCH := Lib.hid hch
          clear hch
          go_wp2_with fail
          refine (CP.out _ (HBW.out.alloc HBW.out.size _)).mono ?_
          rintro en w3 ⟨rfl, hb3⟩
          have HB3 := Lib.hid hb3
          have e0 := kp hb3 HK0.out
          have HW3 : RowKit.Hid (Below w.heap.size w w3) := Lib.hid ((HBW.out.alloc HBW.out.size _).trans (hb3.mono (by have := HBW.out.size; simp; omega)))
          have HP3 := Lib.hid (HP.out.below (((br wr).alloc (Nat.le_refl _) (.cells #[.int .i64 t, .slice pa pl pc] 42)).trans (hb3.mono (by simp))))
          have hge : (fi ≥ 0) = (0 ≤ fi) := rfl
          clear hb3
          go_wp2_with fail
          go_region_held3 (fun w' => w'.cell? ⟨wr.heap.size, 0, none⟩ = some (.int .i64 t))
            (first | exact kp b2 e0 | go_keep | fail)
            (first | (go_at_call 43; (with_reducible refine (CA.out _ _ (by first | exact HP3.out | exact rdE_dr HP3.out)).mono ?_); rintro en w4 ⟨rfl, b2⟩))
          go_wp2
          go_roundw
          case rel => exact ⟨k + 1, by omega, by go_num, HCH.out, by first | exact bt HW3.out b2 | exact bd HW3.out b2⟩
          case measure => simp [intOf]; omega
    · have hch2 : chk (pgs ps) = 0 := by rw [hch, List.drop_eq_nil_of_le (by omega)]; rfl
      have HCH := Lib.hid hch2
      clear hch hch2 H3
      go_wp2
      go_ret
      exact ⟨by rw [HCH.out]; rfl, hbw⟩
end Ld
end Go.Proofs.Ytcppeligeodomaa
