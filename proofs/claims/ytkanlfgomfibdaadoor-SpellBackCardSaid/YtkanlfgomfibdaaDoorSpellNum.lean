/- Spelling: the number of a letter. -/
import Derived.Test.YtkanlfgomfibdaaDoorSpellLay
import Derived.Test.YtkanlfgomfibdaaDoorSpellPlain
import Derived.Test.YtkanlfgomfibdaaDoorBase2
import Derived.Shelf.Unicode.CaseLaid
import Derived.Laws.BitsAllLaws
set_option linter.unusedSimpArgs false
set_option linter.unusedVariables false
namespace Go.Proofs.YtkanlfgomfibdaaDoor
open Go.RowKit
namespace Sl
open Bt
/-- the library's table of great and small letters lies where it must -/
abbrev Tab (w : World) : Prop := Lib.CaseVar (Lay.lUp_ren.g 13) Lib.caseA w
theorem Tab.below {w w' : World} (h : Tab w) (hb : Below w.heap.size w w') : Tab w' := by
  obtain ⟨R, oR, cap, h1, h2⟩ := h
  exact ⟨R, oR, cap, kp hb h1, fun i hi => ⟨kp hb (h2 i hi).1, kp hb (h2 i hi).2.1, kp hb (h2 i hi).2.2.1, kp hb (h2 i hi).2.2.2.1, kp hb (h2 i hi).2.2.2.2⟩⟩
def numC (c : Nat) : Int := if num c = 33 then -2 else if num c = 32 then -1 else num c
def lettersB : ByteArray := ⟨#[48, 49, 50, 51, 52, 53, 54, 55, 56, 57, 65, 66, 67, 68, 69, 70, 71, 72, 74, 75, 77, 78, 80, 81, 82, 83, 84, 86, 87, 88, 89, 90]⟩
def chkN (c : Nat) : Bool :=
  let u := Lib.toUpperU (c : Int)
  if u = 45 then numC c == -1 else if u = 79 then numC c == 0 else if u = 73 then numC c == 1 else if u = 76 then numC c == 1
  else if 127 < u then numC c == -2
  else decide (0 ≤ u) && (if 0 ≤ Lib.indexByte lettersB.data.toList u.toNat.toUInt8 then numC c == Lib.indexByte lettersB.data.toList u.toNat.toUInt8 else numC c == -2)
set_option maxRecDepth 100000 in
theorem chkN_all : ∀ c < 256, chkN c = true := by decide +kernel
set_option maxHeartbeats 2000000 in
theorem number_any (c : Nat) (hc : c < 256) (w : World) (hV : Tab w) : Calls Tryd.prog 15 #[.int .i32 c] w fun e w' => e = .returned (.int .i64 (numC c)) ∧ Below w.heap.size w w' := by
  have hk := chkN_all c hc
  have c1 : Calls Tryd.prog 21 #[.int .i32 c] w fun e w' => e = .returned (.int .i32 (Lib.toUpperU (c : Int))) ∧ ∃ q, w' = w.drewN q := Any.unicode_ToUpper_laid Lay.lUp c w hV
  have c2 : ∀ (r : Int) (w : World), 0 ≤ r → r < 128 → Calls Tryd.prog 22 #[.string lettersB, .int .i32 r] w fun e w' => e = .returned (.int .i64 (Lib.indexByte lettersB.data.toList r.toNat.toUInt8)) ∧ w' = w := fun r w h0 h1 => Any.strings_IndexRune_ascii Lay.lIx lettersB r w h0 h1
  unfold chkN at hk
  simp only at hk
  obtain ⟨u, hu⟩ : ∃ u, Lib.toUpperU (c : Int) = u := ⟨_, rfl⟩
  obtain ⟨R, hR⟩ : ∃ R, numC c = R := ⟨_, rfl⟩
  rw [hu] at c1 hk
  rw [hR] at hk ⊢
  clear hu hR
  have C1 := Lib.hid c1
  have C2 := Lib.hid c2
  clear c1 c2
  unfold lettersB at C2
  by_cases h1 : u = 45
  · subst h1
    obtain rfl : R = -1 := by simpa using hk
    go_enter Tryd.func15, Tryd.ntmps15
    go_wp2_with (first | (go_at_call 21; (with_reducible refine C1.out.mono ?_); rintro en w1 ⟨rfl, q, rfl⟩))
    go_ret
    exact ⟨rfl, bn (br w) q⟩
  by_cases h2 : u = 79
  · subst h2
    obtain rfl : R = 0 := by simpa using hk
    go_enter Tryd.func15, Tryd.ntmps15
    go_wp2_with (first | (go_at_call 21; (with_reducible refine C1.out.mono ?_); rintro en w1 ⟨rfl, q, rfl⟩))
    go_ret
    exact ⟨rfl, bn (br w) q⟩
  by_cases h3 : u = 73
  · subst h3
    obtain rfl : R = 1 := by simpa using hk
    go_enter Tryd.func15, Tryd.ntmps15
    go_wp2_with (first | (go_at_call 21; (with_reducible refine C1.out.mono ?_); rintro en w1 ⟨rfl, q, rfl⟩))
    go_ret
    exact ⟨rfl, bn (br w) q⟩
  by_cases h4 : u = 76
  · subst h4
    obtain rfl : R = 1 := by simpa using hk
    go_enter Tryd.func15, Tryd.ntmps15
    go_wp2_with (first | (go_at_call 21; (with_reducible refine C1.out.mono ?_); rintro en w1 ⟨rfl, q, rfl⟩))
    go_ret
    exact ⟨rfl, bn (br w) q⟩
  have b1 : (u == 45) = false := by simpa using h1
  have b2 : (u == 79) = false := by simpa using h2
  have b3 : (u == 73) = false := by simpa using h3
  have b4 : (u == 76) = false := by simpa using h4
  rw [if_neg h1, if_neg h2, if_neg h3, if_neg h4] at hk
  by_cases h5 : 127 < u
  · rw [if_pos h5] at hk
    obtain rfl : R = -2 := by simpa using hk
    go_enter Tryd.func15, Tryd.ntmps15
    go_wp2_with (first | (go_at_call 21; (with_reducible refine C1.out.mono ?_); rintro en w1 ⟨rfl, q, rfl⟩))
    go_ret
    exact ⟨rfl, bn (br w) q⟩
  rw [if_neg h5, Bool.and_eq_true, decide_eq_true_iff] at hk
  obtain ⟨h6, hk⟩ := hk
  have h7 : u < 128 := by omega
  have CX := Lib.hid (fun w => C2.out u w h6 h7)
  unfold lettersB at hk
  generalize Lib.indexByte _ u.toNat.toUInt8 = X at *
  clear C2
  by_cases h8 : 0 ≤ X
  · rw [if_pos h8] at hk
    obtain rfl : R = X := by simpa using hk
    go_enter Tryd.func15, Tryd.ntmps15
    go_wp2_with (first | (go_at_call 21; (with_reducible refine C1.out.mono ?_); rintro en w1 ⟨rfl, q, rfl⟩) | (go_at_call 22; (with_reducible refine (CX.out _).mono ?_); rintro en w2 ⟨rfl, rfl⟩))
    go_ret
    exact ⟨rfl, bn (br w) q⟩
  · rw [if_neg h8] at hk
    obtain rfl : R = -2 := by simpa using hk
    go_enter Tryd.func15, Tryd.ntmps15
    go_wp2_with (first | (go_at_call 21; (with_reducible refine C1.out.mono ?_); rintro en w1 ⟨rfl, q, rfl⟩) | (go_at_call 22; (with_reducible refine (CX.out _).mono ?_); rintro en w2 ⟨rfl, rfl⟩))
    go_ret
    exact ⟨rfl, bn (br w) q⟩
/-- or, at numbers that do not meet -/
theorem or_i64 (L x k : Nat) (hx : x < 2 ^ k) (hL : L * 2 ^ k + x < 9223372036854775808) : bits .or .i64 ((L * 2 ^ k : Nat) : Int) (x : Int) = ((L * 2 ^ k + x : Nat) : Int) := by
  show IntKind.i64.wrap ((BitVec.ofInt 64 ((L * 2 ^ k : Nat) : Int) ||| BitVec.ofInt 64 (x : Int)).toNat : Int) = _
  have e1 : (BitVec.ofInt 64 ((L * 2 ^ k : Nat) : Int)).toNat = L * 2 ^ k := by rw [BitVec.ofInt_natCast, BitVec.toNat_ofNat]; exact Nat.mod_eq_of_lt (by omega)
  have e2 : (BitVec.ofInt 64 (x : Int)).toNat = x := by rw [BitVec.ofInt_natCast, BitVec.toNat_ofNat]; exact Nat.mod_eq_of_lt (by omega)
  rw [BitVec.toNat_or, e1, e2]
  have h := Nat.two_pow_add_eq_or_of_lt hx L
  rw [Nat.mul_comm] at h
  rw [← h]
  exact IntWalk.i64_in _ (by omega)
end Sl
end Go.Proofs.YtkanlfgomfibdaaDoor
