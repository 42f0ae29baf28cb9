/- Fares: the document's check. (gen_fare.py) -/
import Derived.Test.YtcppeligeodomaaFareCheck
set_option linter.unusedVariables false
namespace Go.Proofs.Ytcppeligeodomaa
open Go.RowKit
namespace Fa
set_option maxHeartbeats 4000000 in
theorem checkR_any (v : Value) (rs : List Rw) (w : World) (h : RdF w v rs) : Calls Try.prog 16 #[v] w (IntQ (chkF (mat rs)) w) := by
  obtain ⟨hr, hls⟩ := h
  obtain ⟨a, cap, rfl, h1, h2, h3⟩ := hr
  have H3 := Lib.hid h3; clear h3
  have HLS := Lib.hid hls; clear hls
  have hml : (mat rs).length = rs.length := List.length_map _
  by_cases c0 : rs.length = 0
  · have hF : chkF (mat rs) = 5 := by unfold chkF; rw [if_pos (hml.trans c0)]
    have HF := Lib.hid hF
    have hq : ((rs.length : Int) == 0) = true := by simp [c0]
    clear hF hml c0 H3 HLS
    go_enter Try.func16, Try.ntmps16
    go_wp2
    go_ret
    exact ⟨by rw [HF.out]; rfl, br _⟩
  have hq : ((rs.length : Int) == 0) = false := beq_eq_false_iff_ne.2 (by omega)
  by_cases c1 : 6 < rs.length
  · have hF : chkF (mat rs) = 2 := by unfold chkF; rw [if_neg (by omega), if_pos (by omega)]
    have HF := Lib.hid hF
    have hq2 : (6 : Int) < (rs.length : Int) := by omega
    clear hF hml
    go_enter Try.func16, Try.ntmps16
    go_wp2
    go_ret
    exact ⟨by rw [HF.out]; rfl, br _⟩
  have hq2 : ¬ (6 : Int) < (rs.length : Int) := by omega
  have hF : chkF (mat rs) = rowsChk (mat rs) := by unfold chkF; rw [if_neg (by omega), if_neg (by omega)]
  have HF := Lib.hid hF
  clear hF hml
  go_enter Try.func16, Try.ntmps16
  go_wp2
  go_loopw [4] (fun i wr => ∃ k : Nat, k ≤ rs.length ∧ i = .int .i64 k ∧ chkF (mat rs) = rowsChk (mat (rs.drop k)) ∧ Below w.heap.size w wr) (fun i _ => rs.length - (intOf i).toNat)
  case atStart => exact ⟨0, Nat.zero_le _, rfl, HF.out, br _⟩
  case round =>
    obtain ⟨k, hk, rfl, hch, hbw⟩ := hrel
    have HBW := Lib.hid hbw
    by_cases hlt : k < rs.length
    · obtain ⟨g, off, rfl, hbl, hc⟩ := H3.out (by omega)
      have d0 := (hbw.cell (p := ⟨g, off + k, none⟩) hbl).trans (eR_at hc k hlt)
      have D0 := Lib.hid (eR_at hc k hlt)
      have i1 : (k : Int) < (rs.length : Int) := by omega
      have i0 : (0 : Int) ≤ (k : Int) := by omega
      have hdrop : mat (rs.drop k) = rs[k].ls :: mat (rs.drop (k + 1)) := by rw [List.drop_eq_getElem_cons hlt]; rfl
      have hdl : (mat (rs.drop (k + 1))).length = rs.length - (k + 1) := by simp
      rw [hdrop] at hch
      unfold rowsChk at hch
      rw [hdl] at hch
      have hrd := HLS.out _ (List.getElem_mem hlt)
      have hw : IntKind.i64.wrap ((rs.length : Int) - (k : Int)) = (rs.length : Int) - (k : Int) := IntWalk.i64_in _ (by omega)
      unfold RdI Rw.v at hrd
      unfold Rw.v at d0 D0
      clear hc hdrop hdl H3 HLS HF
      generalize rs[k].ls = ls at *; generalize rs[k].a = pa at *; generalize rs[k].cap = pc at *
      by_cases c2 : ls.length ≠ rs.length - (k + 1) + 1
      · rw [if_pos c2] at hch
        have HCH := Lib.hid hch
        have hne : ((ls.length : Int) != (rs.length : Int) - (k : Int)) = true := by simp; omega
        clear hch c2 hrd hbw
        go_wp2
        go_ret
        exact ⟨by rw [HCH.out]; rfl, HBW.out⟩
      rw [if_neg c2] at hch
      have c2' : ls.length = rs.length - (k + 1) + 1 := Classical.byContradiction c2
      have hne : ((ls.length : Int) != (rs.length : Int) - (k : Int)) = false := by simp; omega
      have HC2 := Lib.hid c2'
      have hll : ls.length ≤ 6 := by omega
      obtain ⟨a', cap', e, g1, g2, g3⟩ := hrd
      injection e with e1 e2 e3
      subst e1 e3
      clear e2
      have G3 := Lib.hid g3
      have HCH := Lib.hid hch
      clear g3 c2 c2' hch hbw
      go_wp2
      go_loopw [5] (fun i wy => ∃ j : Nat, j ≤ ls.length ∧ i = .int .i64 j ∧ (∀ (q : Nat) (h : q < ls.length), q < j → okP ls[q] = true) ∧ Below w.heap.size w wy) (fun i _ => ls.length - (intOf i).toNat)
      case atStart => exact ⟨0, Nat.zero_le _, rfl, fun q hq h => by omega, HBW.out⟩
      case round =>
        obtain ⟨j, hj, rfl, hall, hby⟩ := hrel
        have HBY := Lib.hid hby
        have f0 := kp hby D0.out
        by_cases hjt : j < ls.length
        · obtain ⟨g', off', rfl, hbl', hc'⟩ := G3.out (by omega)
          have e0 := (hby.cell (p := ⟨g', off' + j, none⟩) hbl').trans (eI_at hc' j hjt)
          have i2 : (j : Int) < (ls.length : Int) := by omega
          have i3 : (0 : Int) ≤ (j : Int) := by omega
          by_cases ho : okP ls[j] = true
          · have hall2 : ∀ (q : Nat) (h : q < ls.length), q < j + 1 → okP ls[q] = true := fun q hq hqj => by
              by_cases e : q = j
              · subst e; exact ho
              · exact hall q hq (by omega)
            have HA := Lib.hid hall2
            obtain ⟨o1, o2⟩ := (okP_iff _).1 ho
            have o1' : ¬ ls[j] < 0 := by omega
            have o2' : ¬ 1000000 < ls[j] := by omega
            clear hall hall2 ho hby hc' G3 o1 o2
            generalize ls[j] = p at *
            go_wp2
            go_roundw
            case rel => exact ⟨j + 1, by omega, by go_num, HA.out, HBY.out⟩
            case measure => simp [intOf]; omega
          · have hno : ¬ ls.all okP = true := fun h => ho (List.all_eq_true.1 h _ (List.getElem_mem hjt))
            have hR := HCH.out
            rw [if_neg hno] at hR
            have HR := Lib.hid hR
            have hbad : ls[j] < 0 ∨ (0 ≤ ls[j] ∧ 1000000 < ls[j]) := by
              rw [okP_iff] at ho; omega
            clear hall ho hby hc' G3 hno hR HCH
            generalize ls[j] = p at *
            rcases hbad with hb1 | ⟨hb1, hb2⟩
            · go_wp2
              go_ret
              exact ⟨by rw [HR.out]; rfl, HBY.out⟩
            · go_wp2
              go_ret
              exact ⟨by rw [HR.out]; rfl, HBY.out⟩
        · have hyes : ls.all okP = true := List.all_eq_true.2 (fun x hx => by
            obtain ⟨q, hq, rfl⟩ := List.getElem_of_mem hx
            exact hall q hq (by omega))
          have hR := HCH.out
          rw [if_pos hyes] at hR
          have HR := Lib.hid hR
          have e : j = ls.length := by omega
          subst e
          clear hall hby G3 hyes hR HCH
          go_wp2
          go_roundw
          case rel => exact ⟨k + 1, by omega, by go_num, HR.out, HBY.out⟩
          case measure => simp [intOf]; omega
    · have hch2 : chkF (mat rs) = 0 := by rw [hch, List.drop_eq_nil_of_le (by omega)]; rfl
      have HCH := Lib.hid hch2
      clear hch hch2 H3
      go_wp2
      go_ret
      exact ⟨by rw [HCH.out]; rfl, hbw⟩
end Fa
end Go.Proofs.Ytcppeligeodomaa
