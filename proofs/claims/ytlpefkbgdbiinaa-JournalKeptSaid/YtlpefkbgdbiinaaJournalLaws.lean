/- Journals: what must be in any case. -/
import Derived.Test.YtlpefkbgdbiinaaJournalRef
set_option linter.unusedVariables false
namespace Go.Proofs.Ytlpefkbgdbiinaa
open Go.RowKit
namespace Jr
open Fr
def sOne : Bs := ⟨#[111, 110, 101]⟩
def sTwo : Bs := ⟨#[116, 119, 111]⟩
def fOne : Bs := ⟨#[0, 3, 111, 110, 101]⟩
def fTwo : Bs := ⟨#[0, 3, 116, 119, 111]⟩
def sX : Bs := ⟨#[120]⟩
theorem k1 : addJ emptyS emptyS sOne = ((emptyS, fOne), 0) := by kernel_rfl
theorem k2 : syncJ emptyS fOne = ((fOne, emptyS), 0) := by kernel_rfl
theorem k3 : addJ fOne emptyS sTwo = ((fOne, fTwo), 0) := by kernel_rfl
theorem k4 : crashJ fOne fTwo 4 = ((fOne, emptyS), 0) := by kernel_rfl
theorem k5 : itemsF fOne fTwo = ([sOne, sTwo], 0) := by kernel_rfl
theorem k6 : itemsF fOne emptyS = ([sOne], 0) := by kernel_rfl
theorem k7 : chkJ sX emptyS = 1 := by kernel_rfl
set_option maxHeartbeats 2000000 in
theorem begun_any (w : World) : Calls Try.prog 25 #[] w (TrueQ w) := by
  have C1 := Lib.hid (add_any emptyS emptyS sOne (by decide) (by decide))
  have C2 := Lib.hid (sync_any emptyS fOne (by decide))
  have C3 := Lib.hid (add_any fOne emptyS sTwo (by decide) (by decide))
  have C4 := Lib.hid (crash_any fOne fTwo 4 (by decide))
  have C5 := Lib.hid (items_any fOne fTwo (by decide))
  have C6 := Lib.hid (items_any fOne emptyS (by decide))
  have C7 := Lib.hid (check_any sX emptyS (by decide))
  rw [k1] at C1; rw [k2] at C2; rw [k3] at C3; rw [k4] at C4; rw [k5] at C5; rw [k6] at C6; rw [k7] at C7
  go_enter Try.func25, Try.ntmps25
  go_wp2_with fail
  refine (C1.out _).mono ?_
  rintro en w1 ⟨rfl, b1⟩
  have B1 := Lib.hid b1
  clear b1
  go_wp2_with fail
  refine (C2.out _).mono ?_
  rintro en w2 ⟨rfl, b2⟩
  have B2 := Lib.hid (bt (B1.out.alloc B1.out.size _) b2)
  clear b2
  go_wp2_with fail
  refine (C3.out _).mono ?_
  rintro en w3 ⟨rfl, b3⟩
  have B3 := Lib.hid (bt (B2.out.alloc B2.out.size _) b3)
  clear b3
  go_wp2_with fail
  refine (C4.out _).mono ?_
  rintro en w4 ⟨rfl, b4⟩
  have B4 := Lib.hid (bt (B3.out.alloc B3.out.size _) b4)
  have KC := Lib.hid (((Box.new w3 34 [.string fOne, .string fTwo]).next b4).alloc (LB fOne emptyS))
  clear b4
  have c0 := KC.out.cell 0; have c1 := KC.out.cell 1
  simp only [List.getElem?_cons_zero, List.getElem?_cons_succ] at c0 c1
  go_wp2_with fail
  refine (C5.out _).mono ?_
  rintro en w5 ⟨v5, rfl, r5, b5⟩
  have B5 := Lib.hid (bt (B4.out.alloc B4.out.size _) b5)
  have KD := Lib.hid ((Box.new w4 34 [.string fOne, .string emptyS]).next b5)
  have R5 := Lib.hid r5
  clear b5 r5 c0 c1 KC
  have c0 := KD.out.cell 0; have c1 := KD.out.cell 1
  simp only [List.getElem?_cons_zero, List.getElem?_cons_succ] at c0 c1
  go_wp2_with fail
  refine (C6.out _).mono ?_
  rintro en w6 ⟨v6, rfl, r6, b6⟩
  have B6 := Lib.hid (bt B5.out b6)
  have R6 := Lib.hid r6
  have R5b := Lib.hid (R5.out.below b6)
  clear b6 r6 c0 c1 KD R5
  have L1 := Lib.hid (litS [sOne, sTwo] w6 (by unfold maxLen; simp))
  have hal := (br w6).alloc (Nat.le_refl _) (.cells #[.string sOne, .string sTwo] 9)
  have R5c := Lib.hid (R5b.out.below hal)
  have R6c := Lib.hid (R6.out.below hal)
  have B7 := Lib.hid (B6.out.alloc B6.out.size (.cells #[.string sOne, .string sTwo] 9))
  clear hal R5b R6
  have S1 := fun v u => Lib.hid (same_self [sOne, sTwo] v u)
  have S2 := fun v u => Lib.hid (same_self [sOne] v u)
  go_wp2_with fail
  refine ((S1 _ _).out _ R5c.out L1.out).mono ?_
  rintro en w7 ⟨rfl, b7⟩
  have B8 := Lib.hid (bt B7.out b7)
  have R6d := Lib.hid (R6c.out.below b7)
  clear b7
  have L2 := Lib.hid (litS [sOne] w7 (by unfold maxLen; simp))
  have hal := (br w7).alloc (Nat.le_refl _) (.cells #[.string sOne] 9)
  have R6e := Lib.hid (R6d.out.below hal)
  have B9 := Lib.hid (B8.out.alloc B8.out.size (.cells #[.string sOne] 9))
  clear hal
  go_wp2_with fail
  refine ((S2 _ _).out _ R6e.out L2.out).mono ?_
  rintro en w8 ⟨rfl, b8⟩
  have BA := Lib.hid (bt B9.out b8)
  clear b8
  go_wp2_with fail
  refine (C7.out _).mono ?_
  rintro en w9 ⟨rfl, b9⟩
  go_wp2_with fail
  go_ret
  exact ⟨by first | rfl | (simp; done), bt BA.out b9⟩
end Jr
end Go.Proofs.Ytlpefkbgdbiinaa
