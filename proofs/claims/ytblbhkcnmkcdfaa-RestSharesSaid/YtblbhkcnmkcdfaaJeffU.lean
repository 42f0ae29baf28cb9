/- Jefferson's way: up and down the heap. -/
import Derived.Test.YtblbhkcnmkcdfaaJeffH
set_option linter.unusedSimpArgs false
set_option linter.unusedVariables false
namespace Go.Proofs.Ytblbhkcnmkcdfaa
open Go.RowKit
namespace Sh
open Stb
abbrev ifc (w0 : World) : Value := .iface 39 (.pointer (some ⟨w0.heap.size, 0, none⟩))
/-- a heap behind a call -/
structure HeapQ (r : Value) (w0 : World) (ws : List Int) (hs : Nat → Int) (n : Nat) (d : Arr) (v : Value) (e : Ending) (w' : World) : Prop where
  ret : e = .returned r
  is : ∃ d', Pm 0 n d d' ∧ HOrd (lessP ws hs) d' n ∧ HSt w0 ws hs n d' v w'
set_option maxRecDepth 100000 in
set_option maxHeartbeats 8000000 in
theorem up_st {w0 w : World} {ws : List Int} {hs : Nat → Int} {n g c : Nat} {d : Arr} (hb : Bds ws hs) (h : HSt w0 ws hs n d (.slice (some ⟨g, 0, none⟩) n c) w) (hg : w0.heap.size + 1 ≤ g) (hn : n ≤ 1000) (j : Nat) (hj : j < n) (hu : UpI (lessP ws hs) d n j) :
    Calls Try.prog 29 #[ifc w0, .int .i64 j] w (HeapQ (.tuple #[]) w0 ws hs n d (.slice (some ⟨g, 0, none⟩) n c)) := by
  have H0 := Lib.hid h; have HU := Lib.hid hu
  have LS := Lib.hid (fun (d : Arr) (w : World) (h : HSt w0 ws hs n d (.slice (some ⟨g, 0, none⟩) n c) w) i j h1 h2 => less_st (d := d) (w := w) hb h hn i j h1 h2)
  have SS := Lib.hid (fun (d : Arr) (w : World) (h : HSt w0 ws hs n d (.slice (some ⟨g, 0, none⟩) n c) w) i j h1 h2 h3 => swap_st h hg hn i j h1 h2 h3)
  have WO := Lib.hid hb.wo
  clear h hu hb
  go_enter Try.func29, Try.ntmps29
  go_wp2
  go_loopw [1] (fun s1 wr => ∃ (j : Nat) (d' : Arr), j < n ∧ s1 = .int .i64 j ∧ Pm 0 n d d' ∧ UpI (lessP ws hs) d' n j ∧ HSt w0 ws hs n d' (.slice (some ⟨g, 0, none⟩) n c) wr) (fun s1 _ => (intOf s1).toNat)
  case atStart => exact ⟨j, d, hj, rfl, Pm.refl _, HU.out, H0.out⟩
  case round =>
    obtain ⟨j, d', hj, rfl, hp, hu, hs'⟩ := hrel
    have HP := Lib.hid hp; have HUJ := Lib.hid hu; have HS := Lib.hid hs'
    clear hp hu
    by_cases c0 : j = 0
    · subst c0
      have HD := Lib.hid (HUJ.out.done (.inl rfl))
      clear hs'
      go_wp2
      go_end0
      exact ⟨rfl, d', HP.out, HD.out, HS.out⟩
    · obtain ⟨p, hpp⟩ : ∃ p, (j - 1) / 2 = p := ⟨_, rfl⟩
      have p0 : ((j : Int) - 1) / 2 = (p : Int) := by omega
      have p1 : p < j := by omega
      have p2 : ((p : Int) == (j : Int)) = false := beq_eq_false_iff_ne.2 (by omega)
      have m1 := meth_less ⟨w0.heap.size, 0, none⟩ wr _ hs'.c
      have n1 := ahead_less; have n2 := ahead_swap
      have LC := Lib.hid (LS.out d' wr HS.out j p hj (by omega))
      have HDN := Lib.hid (fun hr => HUJ.out.done (.inr hr))
      have HST := Lib.hid (fun hr => HUJ.out.step WO.out (by omega) hj hr)
      rw [hpp] at HDN HST
      have HPP := Lib.hid hpp
      clear hs' hpp
      have j0 : (0 : Int) ≤ (j : Int) - 1 := by omega
      by_cases cl : lessP ws hs (d' j) (d' p)
      · rw [decide_eq_true cl] at LC
        go_wp2_with fail
        refine LC.out.mono ?_
        rintro en w1 ⟨rfl, b1⟩
        have HS1 := Lib.hid (HS.out.next b1)
        have m2 := meth_swap ⟨w0.heap.size, 0, none⟩ w1 _ HS1.out.c
        have SC := Lib.hid (SS.out d' w1 HS1.out p j (by omega) hj (by omega))
        have HST2 := Lib.hid (HST.out cl)
        clear b1 cl m1 LC HST HDN
        go_wp2_with fail
        refine SC.out.mono ?_
        rintro en w2 ⟨rfl, s2⟩
        have HS2 := Lib.hid s2
        have HP2 := Lib.hid (Pm.step p j HP.out (Nat.zero_le _) (by omega) (Nat.zero_le _) hj)
        clear s2 m2 SC
        go_wp2
        go_roundw
        case rel => exact ⟨p, _, by omega, rfl, HP2.out, HST2.out, HS2.out⟩
        case measure => simp [intOf]; omega
      · rw [decide_eq_false cl] at LC
        have HD := Lib.hid (HDN.out cl)
        go_wp2_with fail
        refine LC.out.mono ?_
        rintro en w1 ⟨rfl, b1⟩
        have HS1 := Lib.hid (HS.out.next b1)
        clear b1 cl m1 LC HST HDN
        go_wp2
        go_end0
        exact ⟨rfl, d', HP.out, HD.out, HS1.out⟩
set_option maxRecDepth 100000 in
set_option maxHeartbeats 16000000 in
theorem down_st {w0 w : World} {ws : List Int} {hs : Nat → Int} {n g c : Nat} {d : Arr} (hb : Bds ws hs) (h : HSt w0 ws hs n d (.slice (some ⟨g, 0, none⟩) n c) w) (hg : w0.heap.size + 1 ≤ g) (hn : n ≤ 1000) (i0 : Nat) (hi : i0 < n) (hu : DnI (lessP ws hs) d n i0) :
    Calls Try.prog 30 #[ifc w0, .int .i64 i0, .int .i64 n] w fun e w' => ∃ b, HeapQ (.bool b) w0 ws hs n d (.slice (some ⟨g, 0, none⟩) n c) e w' := by
  have H0 := Lib.hid h; have HU := Lib.hid hu
  have LS := Lib.hid (fun (d : Arr) (w : World) (h : HSt w0 ws hs n d (.slice (some ⟨g, 0, none⟩) n c) w) i j h1 h2 => less_st (d := d) (w := w) hb h hn i j h1 h2)
  have SS := Lib.hid (fun (d : Arr) (w : World) (h : HSt w0 ws hs n d (.slice (some ⟨g, 0, none⟩) n c) w) i j h1 h2 h3 => swap_st h hg hn i j h1 h2 h3)
  have WO := Lib.hid hb.wo
  have n1 := ahead_less; have n2 := ahead_swap
  clear h hu hb
  go_enter Try.func30, Try.ntmps30
  go_wp2
  go_loopw [7] (fun s7 wr => ∃ (i : Nat) (d' : Arr), i < n ∧ s7 = .int .i64 i ∧ Pm 0 n d d' ∧ DnI (lessP ws hs) d' n i ∧ HSt w0 ws hs n d' (.slice (some ⟨g, 0, none⟩) n c) wr) (fun s7 _ => n - (intOf s7).toNat)
  case atStart => exact ⟨i0, d, hi, rfl, Pm.refl _, HU.out, H0.out⟩
  case round =>
    obtain ⟨i, d', hi, rfl, hp, hu, hs'⟩ := hrel
    have HP := Lib.hid hp; have HUJ := Lib.hid hu; have HS := Lib.hid hs'
    clear hp hu
    have a0 : IntKind.i64.wrap (2 * (i : Int)) = 2 * (i : Int) := IntWalk.i64_in _ (by omega)
    have a1 : IntKind.i64.wrap (2 * (i : Int) + 1) = 2 * (i : Int) + 1 := IntWalk.i64_in _ (by omega)
    by_cases c0 : n ≤ 2 * i + 1
    · have HD := Lib.hid (HUJ.out.done (fun k h1 h2 h3 => by omega))
      have a2 : 2 * (i : Int) + 1 ≥ (n : Int) := by omega
      clear hs'
      go_wp2
      go_ret
      exact ⟨_, rfl, d', HP.out, HD.out, HS.out⟩
    · have a2 : ¬ 2 * (i : Int) + 1 ≥ (n : Int) := by omega
      have a3 : ¬ 2 * (i : Int) + 1 < 0 := by omega
      have a4 : IntKind.i64.wrap (2 * (i : Int) + 1 + 1) = 2 * (i : Int) + 2 := by rw [show 2 * (i : Int) + 1 + 1 = 2 * (i : Int) + 2 by omega]; exact IntWalk.i64_in _ (by omega)
      by_cases c1 : 2 * i + 2 < n
      · have a5 : 2 * (i : Int) + 2 < (n : Int) := by omega
        have a5' : 2 * (i : Int) + 1 + 1 < (n : Int) := by omega
        have LC := LS.out d' wr HS.out (2 * i + 2) (2 * i + 1) c1 (by omega)
        rw [show ((2 * i + 2 : Nat) : Int) = 2 * (i : Int) + 2 by omega, show ((2 * i + 1 : Nat) : Int) = 2 * (i : Int) + 1 by omega] at LC
        have HLC := Lib.hid LC
        have m1 := meth_less ⟨w0.heap.size, 0, none⟩ wr _ hs'.c
        clear hs' LC
        by_cases cl : lessP ws hs (d' (2 * i + 2)) (d' (2 * i + 1))
        · rw [decide_eq_true cl] at HLC
          have HCL := Lib.hid cl
          clear cl
          go_wp2_with fail
          refine HLC.out.mono ?_
          rintro en w1 ⟨rfl, b1⟩
          have HS1 := Lib.hid (HS.out.next b1)
          clear b1 m1 HLC
          have HMIN : RowKit.Hid (∀ k, 0 < k → k < n → (k - 1) / 2 = i → ¬ lessP ws hs (d' k) (d' (2 * i + 2))) := Lib.hid (by
            intro k h1 h2 h3
            have : k = 2 * i + 1 ∨ k = 2 * i + 2 := by omega
            rcases this with rfl | rfl
            · exact WO.out.as HCL.out
            · exact WO.out.ir)
          have m2 := meth_less ⟨w0.heap.size, 0, none⟩ w1 _ HS1.out.c
          have LC2 := LS.out d' w1 HS1.out (2 * i + 2) i (by omega) hi
          rw [show ((2 * i + 2 : Nat) : Int) = 2 * (i : Int) + 2 by omega] at LC2
          have HLC2 := Lib.hid LC2
          clear LC2
          by_cases cl2 : lessP ws hs (d' (2 * i + 2)) (d' i)
          · rw [decide_eq_true cl2] at HLC2
            have HST := Lib.hid (HUJ.out.step WO.out (show 0 < 2 * i + 2 by omega) (by omega) (by omega) cl2 HMIN.out)
            clear cl2
            go_wp2_with fail
            refine HLC2.out.mono ?_
            rintro en w2 ⟨rfl, b2⟩
            have HS2 := Lib.hid (HS1.out.next b2)
            have m3 := meth_swap ⟨w0.heap.size, 0, none⟩ w2 _ HS2.out.c
            have SC := SS.out d' w2 HS2.out i (2 * i + 2) hi (by omega) (by omega)
            rw [show ((2 * i + 2 : Nat) : Int) = 2 * (i : Int) + 2 by omega] at SC
            have HSC := Lib.hid SC
            clear b2 m2 HLC2 SC
            go_wp2_with fail
            refine HSC.out.mono ?_
            rintro en w3 ⟨rfl, s3⟩
            have HS3 := Lib.hid s3
            have HP3 := Lib.hid (Pm.step i (2 * i + 2) HP.out (Nat.zero_le _) hi (Nat.zero_le _) (show 2 * i + 2 < n by omega))
            have HJI : RowKit.Hid (2 * (i : Int) + 2 = ((2 * i + 2 : Nat) : Int)) := Lib.hid (by omega)
            clear s3 m3 HSC
            go_wp2
            go_roundw
            case rel => exact ⟨2 * i + 2, _, by omega, by rw [HJI.out], HP3.out, HST.out, HS3.out⟩
            case measure => simp [intOf]; omega
          · rw [decide_eq_false cl2] at HLC2
            have HD := Lib.hid (HUJ.out.done (fun k h1 h2 h3 => WO.out.ntr (HMIN.out k h1 h2 h3) cl2))
            clear cl2
            go_wp2_with fail
            refine HLC2.out.mono ?_
            rintro en w2 ⟨rfl, b2⟩
            have HS2 := Lib.hid (HS1.out.next b2)
            clear b2 m2 HLC2
            go_wp2
            go_ret
            exact ⟨_, rfl, d', HP.out, HD.out, HS2.out⟩
        · rw [decide_eq_false cl] at HLC
          have HCL := Lib.hid cl
          clear cl
          go_wp2_with fail
          refine HLC.out.mono ?_
          rintro en w1 ⟨rfl, b1⟩
          have HS1 := Lib.hid (HS.out.next b1)
          clear b1 m1 HLC
          have HMIN : RowKit.Hid (∀ k, 0 < k → k < n → (k - 1) / 2 = i → ¬ lessP ws hs (d' k) (d' (2 * i + 1))) := Lib.hid (by
            intro k h1 h2 h3
            have : k = 2 * i + 1 ∨ k = 2 * i + 2 := by omega
            rcases this with rfl | rfl
            · exact WO.out.ir
            · exact HCL.out)
          have m2 := meth_less ⟨w0.heap.size, 0, none⟩ w1 _ HS1.out.c
          have LC2 := LS.out d' w1 HS1.out (2 * i + 1) i (by omega) hi
          rw [show ((2 * i + 1 : Nat) : Int) = 2 * (i : Int) + 1 by omega] at LC2
          have HLC2 := Lib.hid LC2
          clear LC2
          by_cases cl2 : lessP ws hs (d' (2 * i + 1)) (d' i)
          · rw [decide_eq_true cl2] at HLC2
            have HST := Lib.hid (HUJ.out.step WO.out (show 0 < 2 * i + 1 by omega) (by omega) (by omega) cl2 HMIN.out)
            clear cl2
            go_wp2_with fail
            refine HLC2.out.mono ?_
            rintro en w2 ⟨rfl, b2⟩
            have HS2 := Lib.hid (HS1.out.next b2)
            have m3 := meth_swap ⟨w0.heap.size, 0, none⟩ w2 _ HS2.out.c
            have SC := SS.out d' w2 HS2.out i (2 * i + 1) hi (by omega) (by omega)
            rw [show ((2 * i + 1 : Nat) : Int) = 2 * (i : Int) + 1 by omega] at SC
            have HSC := Lib.hid SC
            clear b2 m2 HLC2 SC
            go_wp2_with fail
            refine HSC.out.mono ?_
            rintro en w3 ⟨rfl, s3⟩
            have HS3 := Lib.hid s3
            have HP3 := Lib.hid (Pm.step i (2 * i + 1) HP.out (Nat.zero_le _) hi (Nat.zero_le _) (show 2 * i + 1 < n by omega))
            have HJI : RowKit.Hid (2 * (i : Int) + 1 = ((2 * i + 1 : Nat) : Int)) := Lib.hid (by omega)
            clear s3 m3 HSC
            go_wp2
            go_roundw
            case rel => exact ⟨2 * i + 1, _, by omega, by rw [HJI.out], HP3.out, HST.out, HS3.out⟩
            case measure => simp [intOf]; omega
          · rw [decide_eq_false cl2] at HLC2
            have HD := Lib.hid (HUJ.out.done (fun k h1 h2 h3 => WO.out.ntr (HMIN.out k h1 h2 h3) cl2))
            clear cl2
            go_wp2_with fail
            refine HLC2.out.mono ?_
            rintro en w2 ⟨rfl, b2⟩
            have HS2 := Lib.hid (HS1.out.next b2)
            clear b2 m2 HLC2
            go_wp2
            go_ret
            exact ⟨_, rfl, d', HP.out, HD.out, HS2.out⟩
      · have a5 : decide (2 * (i : Int) + 2 < (n : Int)) = false := decide_eq_false (by omega)
        have a5' : decide (2 * (i : Int) + 1 + 1 < (n : Int)) = false := decide_eq_false (by omega)
        have cl : True := trivial
        have HLC : True := trivial
        clear hs'
        have HS1 := HS
        have HMIN : RowKit.Hid (∀ k, 0 < k → k < n → (k - 1) / 2 = i → ¬ lessP ws hs (d' k) (d' (2 * i + 1))) := Lib.hid (by
            intro k h1 h2 h3
            have : k = 2 * i + 1 := by omega
            subst this
            exact WO.out.ir)
        have m2 := meth_less ⟨w0.heap.size, 0, none⟩ wr _ HS1.out.c
        have LC2 := LS.out d' wr HS1.out (2 * i + 1) i (by omega) hi
        rw [show ((2 * i + 1 : Nat) : Int) = 2 * (i : Int) + 1 by omega] at LC2
        have HLC2 := Lib.hid LC2
        clear LC2
        by_cases cl2 : lessP ws hs (d' (2 * i + 1)) (d' i)
        · rw [decide_eq_true cl2] at HLC2
          have HST := Lib.hid (HUJ.out.step WO.out (show 0 < 2 * i + 1 by omega) (by omega) (by omega) cl2 HMIN.out)
          clear cl2
          go_wp2_with fail
          refine HLC2.out.mono ?_
          rintro en w2 ⟨rfl, b2⟩
          have HS2 := Lib.hid (HS1.out.next b2)
          have m3 := meth_swap ⟨w0.heap.size, 0, none⟩ w2 _ HS2.out.c
          have SC := SS.out d' w2 HS2.out i (2 * i + 1) hi (by omega) (by omega)
          rw [show ((2 * i + 1 : Nat) : Int) = 2 * (i : Int) + 1 by omega] at SC
          have HSC := Lib.hid SC
          clear b2 m2 HLC2 SC
          go_wp2_with fail
          refine HSC.out.mono ?_
          rintro en w3 ⟨rfl, s3⟩
          have HS3 := Lib.hid s3
          have HP3 := Lib.hid (Pm.step i (2 * i + 1) HP.out (Nat.zero_le _) hi (Nat.zero_le _) (show 2 * i + 1 < n by omega))
          have HJI : RowKit.Hid (2 * (i : Int) + 1 = ((2 * i + 1 : Nat) : Int)) := Lib.hid (by omega)
          clear s3 m3 HSC
          go_wp2
          go_roundw
          case rel => exact ⟨2 * i + 1, _, by omega, by rw [HJI.out], HP3.out, HST.out, HS3.out⟩
          case measure => simp [intOf]; omega
        · rw [decide_eq_false cl2] at HLC2
          have HD := Lib.hid (HUJ.out.done (fun k h1 h2 h3 => WO.out.ntr (HMIN.out k h1 h2 h3) cl2))
          clear cl2
          go_wp2_with fail
          refine HLC2.out.mono ?_
          rintro en w2 ⟨rfl, b2⟩
          have HS2 := Lib.hid (HS1.out.next b2)
          clear b2 m2 HLC2
          go_wp2
          go_ret
          exact ⟨_, rfl, d', HP.out, HD.out, HS2.out⟩
end Sh
end Go.Proofs.Ytblbhkcnmkcdfaa
