/- Gate: the document's check of passes. (gen_gate9.py) -/
import Derived.Test.YtdfdjampodkpgaaDoorGatePasses
import Derived.Test.YtdfdjampodkpgaaDoorJPass
import Derived.Deep.LoopGhost
set_option linter.unusedSimpArgs false
set_option linter.unusedVariables false
namespace Go.Proofs.YtdfdjampodkpgaaDoor
open Go.RowKit
namespace Gt
open Sn Pa
theorem hasI_take (a : Int) (ps : List Px) (i : Nat) (hi : i ≤ ps.length) : hasI a (pls (ps.take i)) = false ↔ ∀ (q : Nat) (h : q < ps.length), q < i → ps[q].p.id ≠ a := by
  rw [← Bool.not_eq_true, hasI_iff]
  constructor
  · intro h q hq hqi he
    refine h ⟨ps[q].pl, List.mem_map.2 ⟨ps[q], ?_, rfl⟩, he⟩
    rw [List.mem_iff_getElem]
    exact ⟨q, by simp; omega, by simp⟩
  · rintro h ⟨x, hx, he⟩
    obtain ⟨y, hy, rfl⟩ := List.mem_map.1 hx
    obtain ⟨q, hq, rfl⟩ := List.getElem_of_mem hy
    rw [List.getElem_take] at he
    simp at hq
    exact h q (by omega) (by omega) he
set_option maxRecDepth 100000 in
set_option maxHeartbeats 4000000 in
theorem passesR_any (v : Value) (ps : List Px) (w : World) (h : RdX w v ps) : Calls Tryd.prog 20 #[v] w (IntQ (pasE (pls ps)) w) := by
  obtain ⟨hr, hls⟩ := h
  have HR := Lib.hid hr
  have hle := hr.len_le
  obtain ⟨a, cap, rfl, h1, h2, h3⟩ := hr
  obtain ⟨F, hF⟩ : ∃ F, pasE (pls ps) = F := ⟨_, rfl⟩
  rw [hF]
  unfold pasE at hF
  have HF := Lib.hid hF; clear hF
  have H3 := Lib.hid h3; clear h3
  have HLS := Lib.hid hls; clear hls
  go_enter Tryd.func20, Tryd.ntmps20
  go_wp2
  go_loopw [3] (fun i wr => ∃ k : Nat, k ≤ ps.length ∧ i = .int .i64 k ∧ pasG (pls (ps.take k)) (pls (ps.drop k)) = F ∧ Below w.heap.size w wr) (fun i _ => ps.length - (intOf i).toNat)
  case atStart => exact ⟨0, Nat.zero_le _, rfl, HF.out, br _⟩
  case round =>
    obtain ⟨k, hk, rfl, hch, hbw⟩ := hrel
    by_cases hlt : k < ps.length
    · obtain ⟨g, off, rfl, hbl, hc⟩ := H3.out (by omega)
      obtain ⟨q0, q1, q2, q3, q4, q5⟩ := eX_at hc k hlt
      have d0 := (hbw.cell (p := ⟨g, off + k * 6, none⟩) hbl).trans q0
      have d1 := (hbw.cell (p := ⟨g, off + k * 6 + 1, none⟩) hbl).trans q1
      have d2 := (hbw.cell (p := ⟨g, off + k * 6 + 2, none⟩) hbl).trans q2
      have d3 := (hbw.cell (p := ⟨g, off + k * 6 + 3, none⟩) hbl).trans q3
      have d4 := (hbw.cell (p := ⟨g, off + k * 6 + 4, none⟩) hbl).trans q4
      have d5 := (hbw.cell (p := ⟨g, off + k * 6 + 5, none⟩) hbl).trans q5
      have i1 : (k : Int) < (ps.length : Int) := by omega
      have i0 : (0 : Int) ≤ (k : Int) := by omega
      have hdrop : pls (ps.drop k) = ps[k].pl :: pls (ps.drop (k + 1)) := by rw [List.drop_eq_getElem_cons hlt]; rfl
      have htake : pls (ps.take (k + 1)) = pls (ps.take k) ++ [ps[k].pl] := by rw [List.take_succ_eq_append_getElem hlt]; exact List.map_append
      rw [hdrop] at hch
      unfold pasG at hch
      rw [← htake] at hch
      have CP := Lib.hid (fun w' (hb : Below w.heap.size w w') => Pa.checkR_any ps[k].p ps[k].v ps[k].l w' ((HLS.out _ (List.getElem_mem hlt)).below hb))
      have HBW := Lib.hid hbw
      have HHT := Lib.hid (hasI_take ps[k].p.id ps k hk)
      have HC := Lib.hid hc
      clear hc q0 q1 q2 q3 q4 q5 hdrop htake H3 HLS HR HF
      by_cases c1 : passE ps[k].p ps[k].l ≠ 0
      · rw [if_pos c1] at hch
        have HCH := Lib.hid hch
        have hn : (passE ps[k].p ps[k].l != 0) = true := by simpa using c1
        clear hch hbw c1 HC HHT
        unfold aP Px.v at CP
        unfold Px.v at d5
        generalize passE ps[k].p ps[k].l = ec at *
        generalize ps[k].p.id = t at *
        generalize ps[k].p.born = t1 at *; generalize ps[k].p.a = t2 at *; generalize ps[k].p.b = t3 at *; generalize ps[k].p.ser = t4 at *
        generalize ps[k].a = pa at *; generalize ps[k].l.length = pl at *; generalize ps[k].cap = pc at *
        go_wp2_with fail
        refine (CP.out _ HBW.out).mono ?_
        rintro en w3 ⟨rfl, hb3⟩
        go_wp2
        go_ret
        exact ⟨by rw [← HCH.out]; rfl, bt HBW.out hb3⟩
      · rw [if_neg c1] at hch
        have c2 : passE ps[k].p ps[k].l = 0 := by simpa using c1
        rw [c2] at CP
        have hpg : ps[k].pl.1.id = ps[k].p.id := rfl
        rw [hpg] at hch
        have HCH := Lib.hid hch
        obtain ⟨t, ht⟩ : ∃ t, ps[k].p.id = t := ⟨_, rfl⟩
        have HT := Lib.hid ht
        rw [ht] at HCH HHT d0
        unfold aP Px.v at CP
        rw [ht] at CP
        unfold Px.v at d5
        clear hch hbw c1 c2 hpg ht
        generalize ps[k].p.born = t1 at *; generalize ps[k].p.a = t2 at *; generalize ps[k].p.b = t3 at *; generalize ps[k].p.ser = t4 at *
        generalize ps[k].a = pa at *; generalize ps[k].l.length = pl at *; generalize ps[k].cap = pc at *
        go_wp2_with fail
        refine (CP.out _ HBW.out).mono ?_
        rintro en w3 ⟨rfl, hb3⟩
        have HW3 := Lib.hid (bt HBW.out hb3)
        clear hb3
        go_wp2
        go_loopw [5] (fun i wy => ∃ j : Nat, j ≤ k ∧ i = .int .i64 j ∧ (∀ (q : Nat) (h : q < ps.length), q < j → ps[q].p.id ≠ t) ∧ Below w.heap.size w wy) (fun i _ => k - (intOf i).toNat)
        case atStart => exact ⟨0, Nat.zero_le _, rfl, fun q hq h => by omega, HW3.out⟩
        case round =>
          obtain ⟨j, hj, rfl, hall, hby⟩ := hrel
          have HBY := Lib.hid hby
          by_cases hjk : j < k
          · have r0 := (eX_at HC.out j (by omega)).1
            have r2 := (eX_at HC.out k hlt).1
            rw [HT.out] at r2
            have g0 := (hby.cell (p := ⟨g, off + j * 6, none⟩) hbl).trans r0
            have g1 := (hby.cell (p := ⟨g, off + k * 6, none⟩) hbl).trans r2
            have i2 : (j : Int) < (k : Int) := by omega
            have i3 : (0 : Int) ≤ (j : Int) := by omega
            have i4 : (j : Int) < (ps.length : Int) := by omega
            clear r0 r2 hby d0 d1 d2 d3 d4 d5
            by_cases he : ps[j].p.id = t
            · have hbt : (ps[j].p.id == t) = true := by simp [he]
              have hno : hasI t (pls (ps.take k)) = true := by
                refine Classical.byContradiction fun hc => ?_
                have := HHT.out.1 (by simpa using hc) j (by omega) hjk
                exact this he
              have hR := HCH.out
              rw [if_pos hno] at hR
              have HR := Lib.hid hR
              clear hR hno HCH HHT hall he
              generalize ps[j].p.id = aj at *
              go_wp2_with fail
              go_quiet (fail)
              go_wp2
              go_ret
              exact ⟨by rw [← HR.out]; rfl, by first | exact HBY.out | exact bn HBY.out _⟩
            · have hbt : (ps[j].p.id == t) = false := by simp [he]
              have hall2 : ∀ (q : Nat) (h : q < ps.length), q < j + 1 → ps[q].p.id ≠ t := fun q hq hqj => by
                by_cases e : q = j
                · subst e; exact he
                · exact hall q hq (by omega)
              have HA3 := Lib.hid hall2
              clear hall2 hall he
              generalize ps[j].p.id = aj at *
              go_wp2_with fail
              go_quiet (fail)
              go_wp2
              go_roundw
              case rel => exact ⟨j + 1, by omega, by go_num, HA3.out, by first | exact HBY.out | exact bn HBY.out _⟩
              case measure => simp [intOf]; omega
          · have e : j = k := by omega
            subst e
            have hno : hasI t (pls (ps.take j)) = false := HHT.out.2 hall
            have hR := HCH.out
            rw [if_neg (by rw [hno]; simp)] at hR
            have HR := Lib.hid hR
            clear hR hno HCH HHT hall hby d0 d1 d2 d3 d4 d5
            go_wp2
            go_roundw
            case rel => exact ⟨j + 1, by omega, by go_num, HR.out, by first | exact HBY.out | exact bn HBY.out _⟩
            case measure => simp [intOf]; omega
    · have hch2 : 0 = F := by rw [← hch, List.drop_eq_nil_of_le (by omega)]; rfl
      have HCH := Lib.hid hch2
      clear hch hch2 H3
      go_wp2
      go_ret
      exact ⟨by rw [← HCH.out]; rfl, hbw⟩
end Gt
end Go.Proofs.YtdfdjampodkpgaaDoor
