/- The document's functions on rings: is a ring right; the key of an epoch. -/
import Derived.Test.YtmeoeihfgmmgmaaRingAdd
set_option linter.unusedVariables false
namespace Go.Proofs.Ytmeoeihfgmmgmaa
open Go.RowKit
namespace Rg
open Tg
set_option maxHeartbeats 2000000 in
theorem checkR_any (v : Value) (xs : List Ep) (w : World) (h : Rd 3 eE w v xs) : Calls Try.prog 14 #[v] w (ErrQ (chk xs) w) := by
  obtain ⟨a, cap, rfl, h1, h2, h3⟩ := h
  by_cases hl : 8 < xs.length
  · have hF : chk xs = 2 := by unfold chk; rw [if_pos hl]
    have HF := Lib.hid hF; clear hF h3
    have hl' : (8 : Int) < (xs.length : Int) := by omega
    go_enter Try.func14, Try.ntmps14
    go_wp2
    go_ret
    exact ⟨by rw [HF.out]; rfl, br _⟩
  · have hF : chk xs = chkR 0 xs := by unfold chk; rw [if_neg hl]
    have HF := Lib.hid hF; clear hF
    have H3 := Lib.hid h3; clear h3
    go_enter Try.func14, Try.ntmps14
    go_wp2
    go_loopw [3, 4] (fun m i wr => ∃ k : Nat, k ≤ xs.length ∧ i = .int .i64 k ∧ m = .int .i64 (prevNo xs k) ∧ chk xs = chkR (prevNo xs k) (xs.drop k) ∧ Below w.heap.size w wr) (fun _ i _ => xs.length - (intOf i).toNat)
    case atStart => exact ⟨0, Nat.zero_le _, rfl, rfl, HF.out, br _⟩
    case round =>
      obtain ⟨k, hk, rfl, rfl, hch, hbw⟩ := hrel
      by_cases hlt : k < xs.length
      · obtain ⟨g, off, rfl, hbl, hc⟩ := H3.out (by omega)
        have q0 := (eE_at hc k hlt).1
        have c0 := (hbw.cell (p := ⟨g, off + k * 3, none⟩) hbl).trans q0
        have i1 : (k : Int) < (xs.length : Int) := by omega
        have i0 : (0 : Int) ≤ (k : Int) := by omega
        have hstep := chkR_step xs k hlt
        rw [hstep] at hch
        have hpn : prevNo xs (k + 1) = xs[k].1 := by show (xs.getD k (0, 0, 0)).1 = _; rw [List.getD_eq_getElem?_getD, List.getElem?_eq_getElem hlt]; rfl
        have HPN := Lib.hid hpn
        have HBW := Lib.hid hbw
        rcases (show xs[k].1 < 1 ∨ (1 ≤ xs[k].1 ∧ 255 < xs[k].1) ∨ (1 ≤ xs[k].1 ∧ xs[k].1 ≤ 255) by omega) with h | ⟨h, h'⟩ | ⟨h, h'⟩
        · rw [if_pos (by omega)] at hch
          have HCH := Lib.hid hch
          clear hch hstep hc q0 hbw hpn
          generalize xs[k].1 = no at *
          generalize prevNo xs k = pr at *
          go_wp2
          go_ret
          exact ⟨by rw [HCH.out]; rfl, HBW.out⟩
        · rw [if_pos (by omega)] at hch
          have HCH := Lib.hid hch
          clear hch hstep hc q0 hbw hpn
          generalize xs[k].1 = no at *
          generalize prevNo xs k = pr at *
          go_wp2
          go_ret
          exact ⟨by rw [HCH.out]; rfl, HBW.out⟩
        · rw [if_neg (by omega)] at hch
          by_cases hle : xs[k].1 ≤ prevNo xs k
          · rw [if_pos hle] at hch
            have HCH := Lib.hid hch
            clear hch hstep hc q0 hbw hpn
            generalize xs[k].1 = no at *
            generalize prevNo xs k = pr at *
            go_wp2_with fail
            try go_quiet (fail)
            go_wp2
            go_ret
            exact ⟨by rw [HCH.out]; rfl, by first | exact HBW.out | exact bn HBW.out _⟩
          · rw [if_neg hle] at hch
            have HCH := Lib.hid hch
            clear hch hstep hc q0 hbw hpn
            generalize xs[k].1 = no at *
            generalize prevNo xs k = pr at *
            go_wp2_with fail
            try go_quiet (fail)
            go_wp2
            go_roundw
            case rel => exact ⟨k + 1, by omega, by go_num, by rw [HPN.out], HCH.out, by first | exact HBW.out | exact bn HBW.out _⟩
            case measure => simp [intOf]; omega
      · have hch2 : chk xs = 0 := hch.trans (chkR_end xs k (by omega) _)
        have HCH := Lib.hid hch2
        clear hch hch2 H3
        go_wp2
        go_ret
        exact ⟨by rw [HCH.out]; rfl, hbw⟩
end Rg
end Go.Proofs.Ytmeoeihfgmmgmaa
