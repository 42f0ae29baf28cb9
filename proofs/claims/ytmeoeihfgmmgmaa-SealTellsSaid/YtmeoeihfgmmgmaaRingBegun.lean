/- Rings: what must be in any case. -/
import Derived.Test.YtmeoeihfgmmgmaaRingBack
import Derived.Deep.RegionHeld3
import Derived.OwnWalk
set_option linter.unusedVariables false
namespace Go.Proofs.Ytmeoeihfgmmgmaa
open Go.RowKit
namespace Rg
open Tg
def K1 : Ep := (3, 1, 2)
def K2 : Ep := (7, 3, 4)
def wren : ByteArray := ⟨#[119, 114, 101, 110]⟩
theorem rd2a (w : World) (p p' : Int) (q r q' r' : W64) (t : TypeId) (H : Nat) (hH : w.heap.size = H) : Rd 3 eE (w.alloc (.cells #[.int .i64 p, .int .u64 (wi q), .int .u64 (wi r), .int .i64 p', .int .u64 (wi q'), .int .u64 (wi r')] t)) (.slice (some ⟨H, 0, none⟩) 2 2) [(p, q, r), (p', q', r')] := by
  subst hH
  refine ⟨_, _, rfl, Nat.le_refl _, by unfold maxLen; omega, fun _ => ⟨w.heap.size, 0, rfl, by simp, ?_⟩⟩
  intro i hi j u hu
  rw [World.cell?_alloc_mark]
  match i, hi with
  | 0, _ =>
    match j with
    | 0 => simp [eE] at hu; subst hu; rfl
    | 1 => simp [eE] at hu; subst hu; rfl
    | 2 => simp [eE] at hu; subst hu; rfl
    | j + 3 => simp [eE] at hu
  | 1, _ =>
    match j with
    | 0 => simp [eE] at hu; subst hu; rfl
    | 1 => simp [eE] at hu; subst hu; rfl
    | 2 => simp [eE] at hu; subst hu; rfl
    | j + 3 => simp [eE] at hu
theorem keys_any (w : World) : Calls Try.prog 24 #[] w fun e w' => ∃ v', e = .returned v' ∧ Rd 3 eE w' v' [K1, K2] ∧ Below w.heap.size w w' := by
  have hr := Lib.hid (rd2a w 3 7 1 2 3 4 40 w.heap.size rfl)
  go_enter Try.func24, Try.ntmps24
  go_wp2_with fail
  go_ret
  exact ⟨_, rfl, by first | exact hr.out | exact rd_dr hr.out, by first | exact (br _).alloc (Nat.le_refl _) _ | exact bn ((br _).alloc (Nat.le_refl _) _) _⟩
def TT : ByteArray := sealed K2 wren
theorem k_chk : chk [K1, K2] = 0 := by decide
theorem k_seal : sealF [K1, K2] wren = (TT, 0) := by
  unfold sealF; rw [if_neg (by decide)]; rfl
theorem k_size : TT.size = 13 := by unfold TT; rw [sealed_size]; rfl
theorem k_open : openF [K1, K2] TT = (wren, 7, 0) := open_sealed (xs := [K1, K2]) k_chk 1 (by decide) wren (by decide)
theorem k_drop : dropF [K1, K2] 7 = ([K1], 0) := by decide
theorem k_lost : openF [K1] TT = (emptyS, 0, 5) := open_lost (xs := [K1]) (by decide) K2 (by decide) wren (by decide) (by decide)
theorem k_add : addF [K1] (9, 0) = ([K1, (4, 9, 0)], 0) := by decide
theorem k_chk2 : chk [(2, 0, 0), (2, 0, 0)] = 4 := by decide
set_option maxHeartbeats 2000000 in
theorem begun_any (w : World) : Calls Try.prog 12 #[] w fun e w' => e = .returned (.bool true) ∧ Below w.heap.size w w' := by
  have C1 := fun v => Lib.hid (seal_any v [K1, K2] wren (by decide))
  simp only [k_seal] at C1
  have C2 := fun v => Lib.hid (open_any v [K1, K2] TT (by rw [k_size]; omega))
  simp only [k_open] at C2
  have C3 := fun v => Lib.hid (drop_any v [K1, K2] 7)
  simp only [k_drop] at C3
  have C4 := fun v => Lib.hid (open_any v [K1] TT (by rw [k_size]; omega))
  simp only [k_lost] at C4
  have C5 := fun v => Lib.hid (add_any v [K1] 9 0)
  simp only [k_add] at C5
  have hsz : (TT.size : Int) = 13 := by rw [k_size]; rfl
  have HSZ := Lib.hid hsz
  generalize TT = T at *
  go_enter Try.func12, Try.ntmps12
  go_wp2_with fail
  refine (keys_any _).mono ?_
  rintro en w1 ⟨v1, rfl, r1, b1⟩
  have B1 := Lib.hid b1; have R1 := Lib.hid r1; clear b1 r1
  go_wp2_with fail
  refine ((C1 v1).out _ R1.out).mono ?_
  rintro en w2 ⟨rfl, b2⟩
  have B2 := Lib.hid (bt B1.out b2); clear b2
  go_wp2_with fail
  refine (keys_any _).mono ?_
  rintro en w3 ⟨v3, rfl, r3, b3⟩
  have B3 := Lib.hid (bt B2.out b3); have R3 := Lib.hid r3; clear b3 r3
  go_wp2_with fail
  refine ((C2 v3).out _ R3.out).mono ?_
  rintro en w4 ⟨rfl, b4⟩
  have B4 := Lib.hid (bt B3.out b4); clear b4
  go_wp2_with fail
  refine (keys_any _).mono ?_
  rintro en w5 ⟨v5, rfl, r5, b5⟩
  have B5 := Lib.hid (bt B4.out b5); have R5 := Lib.hid r5; clear b5 r5
  go_wp2_with fail
  refine ((C3 v5).out _ R5.out).mono ?_
  rintro en w6 ⟨v6, rfl, r6, b6⟩
  have B6 := Lib.hid (bt B5.out b6); have R6 := Lib.hid r6; clear b6 r6
  go_wp2_with fail
  refine ((C4 v6).out _ R6.out).mono ?_
  rintro en w7 ⟨rfl, b7⟩
  have B7 := Lib.hid (bt B6.out b7)
  have R7 := Lib.hid (R6.out.below b7); clear b7
  go_wp2_with fail
  refine ((C5 v6).out _ R7.out).mono ?_
  rintro en w8 ⟨v8, rfl, r8, b8⟩
  have R8 := Lib.hid (R7.out.below b8)
  have B8 := Lib.hid (bt B7.out b8); have S8 := Lib.hid r8
  clear b8 r8
  obtain ⟨a6, c6, rfl, _, _, _⟩ := R8.out
  obtain ⟨a8, c8, rfl, h81, h82, h83⟩ := S8.out
  obtain ⟨g, off, rfl, hbl, hcc⟩ := h83 (by decide)
  obtain ⟨q0, q1, q2⟩ := eE_at hcc 1 (by decide)
  have hwl2 : wren.toList = [119, 114, 101, 110] := by rw [ByteArray.toList_eq]; rfl
  have HCK := Lib.hid (check_any (.slice (some ⟨w8.heap.size, 0, none⟩) 2 2) [(2, 0, 0), (2, 0, 0)])
  rw [k_chk2] at HCK
  simp only [List.getElem_cons_succ, List.getElem_cons_zero] at q0 q1 q2
  have e9 : wi 9 = 9 := by decide
  have e00 : wi 0 = 0 := by decide
  rw [e9] at q1; rw [e00] at q2
  have hr0 := (rd2a w8 2 2 0 0 0 0 40 w8.heap.size rfl)
  rw [e00] at hr0
  have hr := Lib.hid hr0
  clear hcc h83 hr0
  go_wp2_with fail
  refine (HCK.out _ hr.out).mono ?_
  rintro en w9 ⟨rfl, b9⟩
  have B9 := Lib.hid (bt (B8.out.alloc B8.out.size _) b9)
  clear b9
  go_wp2_with fail
  go_ret
  exact ⟨by first | rfl | (simp; done), B9.out⟩
end Rg
end Go.Proofs.Ytmeoeihfgmmgmaa
