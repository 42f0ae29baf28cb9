/- Rings: what is marked with its tag. -/
import Derived.Test.YtmeoeihfgmmgmaaRingAdd
import Derived.Test.YtmeoeihfgmmgmaaTagOf
import Derived.Laws.IdiomStrings
import Derived.Deep.LoopGhost
set_option linter.unusedVariables false
namespace Go.Proofs.Ytmeoeihfgmmgmaa
open Go.RowKit
namespace Rg
open Tg
def byteOf (N : W64) (k : Nat) : Nat := N.toNat / 2 ^ (8 * k) % 256
theorem byteOf_lt (N : W64) (k : Nat) : byteOf N k < 256 := by unfold byteOf; omega
theorem byte_wrap (N : W64) (k : Nat) (P : Int) (hP : P = 2 ^ (8 * k)) : IntKind.u8.wrap (wi N / P) = (byteOf N k : Int) := by
  unfold byteOf wi
  rw [IntKind.wrap_u8, hP]
  have : ((2 : Int) ^ (8 * k)) = ((2 ^ (8 * k) : Nat) : Int) := by simp
  rw [this]
  omega
/-- eight bytes in a block of the call's own, the first k of them are set -/
structure B8 (W w : World) (g : Nat) (N : W64) (k : Nat) : Prop where
  below : Below W.heap.size W w
  ge : W.heap.size ≤ g
  lt : g < w.heap.size
  cell : ∀ j, j < 8 → w.cell? ⟨g, j, none⟩ = some (.int .u8 ((if j < k then byteOf N j else 0 : Nat) : Int))
  froz : ∀ j, w.frozen? ⟨g, j, none⟩ = false
theorem B8.set {W w : World} {g : Nat} {N : W64} {k : Nat} (h : B8 W w g N k) (hk : k < 8) : B8 W (w.setCell ⟨g, k, none⟩ (.int .u8 (byteOf N k))) g N (k + 1) := by
  refine ⟨h.below.setCell h.ge _, h.ge, by have := h.lt; simpa using this, fun j hj => ?_, fun j => ?_⟩
  · by_cases e : j = k
    · subst e
      rw [World.cell?_setCell_same w _ _ (h.cell j hj), if_pos (by omega)]
    · rw [World.cell?_setCell_other w _ _ _ (by intro e2; injection e2; omega), h.cell j hj]
      by_cases h1 : j < k
      · rw [if_pos h1, if_pos (by omega)]
      · rw [if_neg h1, if_neg (by omega)]
  · rw [World.frozen?_setCell]; exact h.froz j
theorem b8_0 (W w1 : World) (hb : Below W.heap.size W w1) (N : W64) (t : TypeId) : B8 W (w1.alloc (.cells #[.int .u8 0, .int .u8 0, .int .u8 0, .int .u8 0, .int .u8 0, .int .u8 0, .int .u8 0, .int .u8 0] t)) w1.heap.size N 0 := by
  refine ⟨hb.alloc hb.size _, hb.size, by simp, fun j hj => ?_, fun j => ?_⟩
  · rw [World.cell?_alloc_mark, if_neg (by omega)]
    match j, hj with
    | 0, _ => rfl
    | 1, _ => rfl
    | 2, _ => rfl
    | 3, _ => rfl
    | 4, _ => rfl
    | 5, _ => rfl
    | 6, _ => rfl
    | 7, _ => rfl
  · rw [World.frozen?_alloc_mark]; simp
/-- the eight bytes, the least one first -/
def leL (N : W64) : List UInt8 := [UInt8.ofNat (byteOf N 0), UInt8.ofNat (byteOf N 1), UInt8.ofNat (byteOf N 2), UInt8.ofNat (byteOf N 3), UInt8.ofNat (byteOf N 4), UInt8.ofNat (byteOf N 5), UInt8.ofNat (byteOf N 6), UInt8.ofNat (byteOf N 7)]
def markB (a b : W64) (s : ByteArray) : ByteArray := s ++ ⟨(leL (tagF a b s.data.toList)).toArray⟩
theorem leL_at (N : W64) (j : Nat) (hj : j < (leL N).length) : ((leL N)[j].toNat : Int) = (byteOf N j : Int) := by
  have h : ∀ k, (UInt8.ofNat (byteOf N k)).toNat = byteOf N k := fun k => by
    have := byteOf_lt N k
    simp; omega
  match j, hj with
  | 0, _ => exact congrArg _ (h 0)
  | 1, _ => exact congrArg _ (h 1)
  | 2, _ => exact congrArg _ (h 2)
  | 3, _ => exact congrArg _ (h 3)
  | 4, _ => exact congrArg _ (h 4)
  | 5, _ => exact congrArg _ (h 5)
  | 6, _ => exact congrArg _ (h 6)
  | 7, _ => exact congrArg _ (h 7)
set_option maxHeartbeats 2000000 in
theorem marked_any (a b : W64) (s : ByteArray) (hs : s.size ≤ 1000) (w : World) : Calls Try.prog 25 #[aKey a b, .string s] w fun e w' => e = .returned (.string (markB a b s)) ∧ Below w.heap.size w w' := by
  obtain ⟨M, hM⟩ : ∃ M, markB a b s = M := ⟨_, rfl⟩
  rw [hM]
  unfold markB at hM
  have HM := Lib.hid hM
  clear hM
  unfold aKey
  go_enter Try.func25, Try.ntmps25
  go_wp2_with fail
  refine (of_any a b s _ (by omega)).mono ?_
  rintro en w1 ⟨rfl, hb1⟩
  generalize tagF a b s.data.toList = N at *
  have HB1 : Below w.heap.size w w1 := bt ((br _).alloc (Nat.le_refl _) _) hb1
  have B0 := Lib.hid (b8_0 w w1 HB1 N 56)
  have hN := wi_bd N
  have hN0 := hN.1; have hN1 := hN.2
  clear hb1 hN
  go_wp2_with fail
  go_loopw [11] (fun i wr => ∃ k : Nat, k ≤ 8 ∧ i = .int .i64 k ∧ B8 w wr w1.heap.size N k) (fun i _ => 8 - (intOf i).toNat)
  case atStart => exact ⟨0, by omega, rfl, B0.out⟩
  case round =>
    obtain ⟨k, hk, rfl, hB⟩ := hrel
    clear B0
    have HB := Lib.hid hB
    clear hB
    rcases (show k = 0 ∨ k = 1 ∨ k = 2 ∨ k = 3 ∨ k = 4 ∨ k = 5 ∨ k = 6 ∨ k = 7 ∨ k = 8 by omega) with rfl | rfl | rfl | rfl | rfl | rfl | rfl | rfl | rfl
    · have c := HB.out.cell 0 (by omega); have f := HB.out.froz 0
      rw [if_neg (by omega)] at c
      have e := byte_wrap N 0 1 (by decide)
      have e0 : wi N % 256 = ((byteOf N 0 : Nat) : Int) := by have h := byte_wrap N 0 1 (by decide); rw [Int.ediv_one, IntKind.wrap_u8] at h; exact h
      have HB2 := Lib.hid (HB.out.set (by omega))
      clear HB
      go_wp2
      go_roundw
      case rel => exact ⟨1, by omega, rfl, HB2.out⟩
      case measure => simp [intOf]
    · have c := HB.out.cell 1 (by omega); have f := HB.out.froz 1
      rw [if_neg (by omega)] at c
      have e := byte_wrap N 1 256 (by decide)
      have HB2 := Lib.hid (HB.out.set (by omega))
      clear HB
      go_wp2
      go_roundw
      case rel => exact ⟨2, by omega, rfl, HB2.out⟩
      case measure => simp [intOf]
    · have c := HB.out.cell 2 (by omega); have f := HB.out.froz 2
      rw [if_neg (by omega)] at c
      have e := byte_wrap N 2 65536 (by decide)
      have HB2 := Lib.hid (HB.out.set (by omega))
      clear HB
      go_wp2
      go_roundw
      case rel => exact ⟨3, by omega, rfl, HB2.out⟩
      case measure => simp [intOf]
    · have c := HB.out.cell 3 (by omega); have f := HB.out.froz 3
      rw [if_neg (by omega)] at c
      have e := byte_wrap N 3 16777216 (by decide)
      have HB2 := Lib.hid (HB.out.set (by omega))
      clear HB
      go_wp2
      go_roundw
      case rel => exact ⟨4, by omega, rfl, HB2.out⟩
      case measure => simp [intOf]
    · have c := HB.out.cell 4 (by omega); have f := HB.out.froz 4
      rw [if_neg (by omega)] at c
      have e := byte_wrap N 4 4294967296 (by decide)
      have HB2 := Lib.hid (HB.out.set (by omega))
      clear HB
      go_wp2
      go_roundw
      case rel => exact ⟨5, by omega, rfl, HB2.out⟩
      case measure => simp [intOf]
    · have c := HB.out.cell 5 (by omega); have f := HB.out.froz 5
      rw [if_neg (by omega)] at c
      have e := byte_wrap N 5 1099511627776 (by decide)
      have HB2 := Lib.hid (HB.out.set (by omega))
      clear HB
      go_wp2
      go_roundw
      case rel => exact ⟨6, by omega, rfl, HB2.out⟩
      case measure => simp [intOf]
    · have c := HB.out.cell 6 (by omega); have f := HB.out.froz 6
      rw [if_neg (by omega)] at c
      have e := byte_wrap N 6 281474976710656 (by decide)
      have HB2 := Lib.hid (HB.out.set (by omega))
      clear HB
      go_wp2
      go_roundw
      case rel => exact ⟨7, by omega, rfl, HB2.out⟩
      case measure => simp [intOf]
    · have c := HB.out.cell 7 (by omega); have f := HB.out.froz 7
      rw [if_neg (by omega)] at c
      have e := byte_wrap N 7 72057594037927936 (by decide)
      have HB2 := Lib.hid (HB.out.set (by omega))
      clear HB
      go_wp2
      go_roundw
      case rel => exact ⟨8, by omega, rfl, HB2.out⟩
      case measure => simp [intOf]
    · have hcv : (convert 51 9 (.slice (some ⟨w1.heap.size, 0, none⟩) 8 8)).run Try.prog wr = .ok (.string ⟨(leL N).toArray⟩) wr := by
        refine run_convert_bytes_back wr 51 9 5 ⟨w1.heap.size, 0, none⟩ 8 (leL N) Try.underlying51 Try.underlying5 Try.underlying9 (fun j hj => ?_)
        have hj8 : j < 8 := hj
        have ha : (⟨w1.heap.size, 0, none⟩ : Addr).add j = ⟨w1.heap.size, j, none⟩ := by unfold Addr.add; split <;> simp_all
        rw [ha, HB.out.cell j hj8, if_pos hj8, leL_at]
      obtain ⟨T, hT⟩ : ∃ T : ByteArray, T = ⟨(leL N).toArray⟩ := ⟨_, rfl⟩
      have hTs : T.size ≤ 8 := by rw [hT]; exact Nat.le_refl 8
      rw [← hT] at hcv HM
      have HM2 := Lib.hid HM.out
      clear hT HM
      go_wp2
      go_ret
      exact ⟨by rw [← HM2.out]; rfl, HB.out.below⟩
end Rg
end Go.Proofs.Ytmeoeihfgmmgmaa
