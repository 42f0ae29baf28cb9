/- Rings: is a ring right? -/
import Derived.Test.YtmeoeihfgmmgmaaRingOwn
import Derived.Deep.LoopGhost
set_option linter.unusedVariables false
namespace Go.Proofs.Ytmeoeihfgmmgmaa
open Go.RowKit
namespace Rg
open Tg
def ErrQ (r : Int) (w : World) (e : Ending) (w' : World) : Prop := e = .returned (.int .i64 r) ∧ Below w.heap.size w w'
set_option maxHeartbeats 2000000 in
theorem check_any (v : Value) (xs : List Ep) (w : World) (h : Rd 3 eE w v xs) : Calls Try.prog 13 #[v] w (ErrQ (chk xs) w) := by
  obtain ⟨a, cap, rfl, h1, h2, h3⟩ := h
  by_cases hl : 8 < xs.length
  · have hF : chk xs = 2 := by unfold chk; rw [if_pos hl]
    have HF := Lib.hid hF; clear hF h3
    have hl' : (8 : Int) < (xs.length : Int) := by omega
    go_enter Try.func13, Try.ntmps13
    go_wp2
    go_ret
    exact ⟨by rw [HF.out]; rfl, br _⟩
  · have hF : chk xs = chkR 0 xs := by unfold chk; rw [if_neg hl]
    have HF := Lib.hid hF; clear hF
    have H3 := Lib.hid h3; clear h3
    go_enter Try.func13, Try.ntmps13
    go_wp2
    go_loopw [10] (fun i wr => ∃ k : Nat, k ≤ xs.length ∧ i = .int .i64 k ∧ chk xs = chkR (prevNo xs k) (xs.drop k) ∧ Below w.heap.size w wr) (fun i _ => xs.length - (intOf i).toNat)
    case atStart => exact ⟨0, Nat.zero_le _, rfl, HF.out, br _⟩
    case round =>
      obtain ⟨k, hk, rfl, hch, hbw⟩ := hrel
      by_cases hlt : k < xs.length
      · obtain ⟨g, off, rfl, hbl, hc⟩ := H3.out (by omega)
        obtain ⟨q0, q1, q2⟩ := eE_at hc k hlt
        have c0 := (hbw.cell (p := ⟨g, off + k * 3, none⟩) hbl).trans q0
        have c1 := (hbw.cell (p := ⟨g, off + k * 3 + 1, none⟩) hbl).trans q1
        have c2 := (hbw.cell (p := ⟨g, off + k * 3 + 2, none⟩) hbl).trans q2
        have i1 : (k : Int) < (xs.length : Int) := by omega
        have i0 : (0 : Int) ≤ (k : Int) := by omega
        have hstep := chkR_step xs k hlt
        rw [hstep] at hch
        have HBW := Lib.hid hbw
        rcases (show xs[k].1 < 1 ∨ (1 ≤ xs[k].1 ∧ 255 < xs[k].1) ∨ (1 ≤ xs[k].1 ∧ xs[k].1 ≤ 255) by omega) with h | ⟨h, h'⟩ | ⟨h, h'⟩
        · rw [if_pos (by omega)] at hch
          have HCH := Lib.hid hch
          clear hch hstep hc q0 q1 q2 hbw
          generalize xs[k].1 = no at *; generalize wi xs[k].2.1 = ka at *; generalize wi xs[k].2.2 = kb at *
          go_wp2
          go_ret
          exact ⟨by rw [HCH.out]; rfl, by first | exact HBW.out | exact HBW.out.alloc HBW.out.size _⟩
        · rw [if_pos (by omega)] at hch
          have HCH := Lib.hid hch
          clear hch hstep hc q0 q1 q2 hbw
          generalize xs[k].1 = no at *; generalize wi xs[k].2.1 = ka at *; generalize wi xs[k].2.2 = kb at *
          go_wp2
          go_ret
          exact ⟨by rw [HCH.out]; rfl, by first | exact HBW.out | exact HBW.out.alloc HBW.out.size _⟩
        · rw [if_neg (by omega)] at hch
          rcases k with _ | j
          · have hp : prevNo xs 0 = 0 := rfl
            rw [hp, if_neg (by omega)] at hch
            have HCH := Lib.hid hch
            clear hch hstep hc q0 q1 q2 hbw hp
            simp only [Nat.zero_mul, Nat.add_zero] at c0 c1 c2
            generalize xs[0].1 = no at *; generalize wi xs[0].2.1 = ka at *; generalize wi xs[0].2.2 = kb at *
            go_wp2_with fail
            try go_quiet (fail)
            go_wp2
            go_roundw
            case rel => exact ⟨0 + 1, by omega, by go_num, HCH.out, by first | exact HBW.out | exact HBW.out.alloc HBW.out.size _ | exact bn (HBW.out.alloc HBW.out.size _) _⟩
            case measure => simp [intOf]; omega
          · obtain ⟨p0, _, _⟩ := eE_at hc j (by omega)
            have e0 := (hbw.cell (p := ⟨g, off + j * 3, none⟩) hbl).trans p0
            have hp : prevNo xs (j + 1) = xs[j].1 := by show (xs.getD j (0, 0, 0)).1 = _; rw [List.getD_eq_getElem?_getD, List.getElem?_eq_getElem (by omega)]; rfl
            rw [hp] at hch
            have hj1 : ((j + 1 : Nat) : Int) - 1 = (j : Int) := by omega
            have hj0 : (0 : Int) ≤ (j : Int) := by omega
            have hj2 : (j : Int) < (xs.length : Int) := by omega
            have hwk : IntKind.i64.wrap (((j + 1 : Nat) : Int) - 1) = (j : Int) := by rw [hj1]; exact IntWalk.i64_in _ (by omega)
            clear hstep hc q0 q1 q2 hbw hp p0 hj1
            by_cases hle : xs[j + 1].1 ≤ xs[j].1
            · rw [if_pos hle] at hch
              have HCH := Lib.hid hch
              clear hch
              generalize xs[j + 1].1 = no at *; generalize wi xs[j + 1].2.1 = ka at *; generalize wi xs[j + 1].2.2 = kb at *; generalize xs[j].1 = pr at *
              have e1 : (wr.alloc (.cells #[.int .i64 no, .int .u64 ka, .int .u64 kb] 40)).cell? ⟨g, off + j * 3, none⟩ = some (.int .i64 pr) := kp ((br wr).alloc (Nat.le_refl _) _) e0
              go_wp2_with fail
              go_quiet (fail)
              go_wp2
              go_ret
              exact ⟨by rw [HCH.out]; rfl, by first | exact HBW.out | exact HBW.out.alloc HBW.out.size _ | exact bn (HBW.out.alloc HBW.out.size _) _⟩
            · rw [if_neg hle] at hch
              have HCH := Lib.hid hch
              clear hch
              generalize xs[j + 1].1 = no at *; generalize wi xs[j + 1].2.1 = ka at *; generalize wi xs[j + 1].2.2 = kb at *; generalize xs[j].1 = pr at *
              have e1 : (wr.alloc (.cells #[.int .i64 no, .int .u64 ka, .int .u64 kb] 40)).cell? ⟨g, off + j * 3, none⟩ = some (.int .i64 pr) := kp ((br wr).alloc (Nat.le_refl _) _) e0
              go_wp2_with fail
              go_quiet (fail)
              go_wp2
              go_roundw
              case rel => exact ⟨j + 1 + 1, by omega, by go_num, HCH.out, by first | exact HBW.out | exact HBW.out.alloc HBW.out.size _ | exact bn (HBW.out.alloc HBW.out.size _) _⟩
              case measure => simp [intOf]; omega
      · have hch2 : chk xs = 0 := hch.trans (chkR_end xs k (by omega) _)
        have HCH := Lib.hid hch2
        clear hch hch2 H3
        go_wp2
        go_ret
        exact ⟨by rw [HCH.out]; rfl, hbw⟩
end Rg
end Go.Proofs.Ytmeoeihfgmmgmaa
