/- Gate: the document's function on reading a token. (gen_gate7.py) -/
import Derived.Test.YtdfdjampodkpgaaDoorGateText
import Derived.Test.YtdfdjampodkpgaaDoorJSpellQ
import Derived.Deep.RegionHeld3
import Derived.Deep.RegionLaw
set_option linter.unusedSimpArgs false
set_option linter.unusedVariables false
namespace Go.Proofs.YtdfdjampodkpgaaDoor
open Go.RowKit
namespace Gt
open Sn Pa Rg Tg
set_option maxHeartbeats 1000000 in
theorem numR_any (l : List UInt8) (hl : l.length ≤ 7) (w : World) : Calls Tryd.prog 35 #[.string (bS l)] w fun e w' => e = .returned (.int .i64 (numB l : Nat)) ∧ w = w' := by
  have hs := bS_size l
  have HD : RowKit.Hid ((bS l).data.toList = l) := Lib.hid (by simp)
  generalize bS l = s at *
  go_enter Tryd.func35, Tryd.ntmps35
  go_wp2
  go_loop [3, 4] (fun n i => ∃ k : Nat, k ≤ s.size ∧ i = .int .i64 k ∧ n = .int .i64 ((numB (l.take k) : Nat) : Int)) (fun _ i => s.size - (intOf i).toNat)
  case atStart => exact ⟨0, by omega, rfl, rfl⟩
  case round =>
    obtain ⟨k, hk, rfl, rfl⟩ := hrel
    by_cases hlt : k < s.size
    · have hll : k < l.length := by omega
      have hxe : s[k] = l[k] := by
        have h2 : s.data.toList[k]'(by rw [HD.out]; exact hll) = l[k] := by simp only [HD.out]
        rw [← h2]; rfl
      have e1 := numB_take l k hll
      have b1 := numB_lt l k (by omega)
      have b2 : 256 ^ k ≤ 256 ^ 6 := Nat.pow_le_pow_right (by omega) (by omega)
      have b3 : numB (l.take k) < 281474976710656 := by omega
      rw [← hxe] at e1
      have E1 := Lib.hid e1
      clear e1 b1 b2 hxe
      generalize numB (l.take k) = x at *
      have i1 : (k : Int) < (s.size : Int) := by omega
      have bb := s[k].toNat_lt
      go_wp2
      go_round
      case rel => exact ⟨k + 1, by omega, by go_num, by rw [E1.out]; first | rfl | go_num⟩
      case measure => simp [intOf]; omega
    · have e : l.take k = l := List.take_of_length_le (by omega)
      rw [e]
      go_wp2
      go_ret
      exact ⟨rfl, rfl⟩
theorem bS_ext (l : List UInt8) (a b : Nat) : (bS l).extract a b = bS ((l.drop a).take (b - a)) := by
  apply ByteArray.ext
  simp [ByteArray.data_extract, List.take_drop]
theorem sl_bS (l : List UInt8) (a b : Nat) (hab : a ≤ b) (hb : b ≤ l.length) (w : World) : (Instr.slice 9 (.string (bS l)) (some (.int .i64 (a : Int))) (some (.int .i64 (b : Int))) none).run Tryd.prog w = .ok (.string (bS ((l.drop a).take (b - a)))) w := by
  have := run_slice_string (P := Tryd.prog) (w := w) 9 (bS l) .i64 .i64 (a : Int) (b : Int) Tryd.underlying9 (by omega) (by omega) (by rw [bS_size]; omega)
  rw [this, Int.toNat_natCast, Int.toNat_natCast, bS_ext]
theorem slh_bS (l : List UInt8) (b : Nat) (hb : b ≤ l.length) (w : World) : (Instr.slice 9 (.string (bS l)) none (some (.int .i64 (b : Int))) none).run Tryd.prog w = .ok (.string (bS (l.take b))) w := by
  have := run_slice_string_h (P := Tryd.prog) (w := w) 9 (bS l) Tryd.underlying9 .i64 (b : Int) (by omega) (by rw [bS_size]; omega)
  rw [this, Int.toNat_natCast, bS_take]
theorem ix_bS (l : List UInt8) (i : Nat) (h : i < l.length) (w : World) : (Instr.index 9 (.string (bS l)) (.int .i64 (i : Int))).run Tryd.prog w = .ok (.int .u8 (numB ((l.drop i).take 1) : Nat)) w := by
  have := Sl.idx_str (bS l) (i : Int) i rfl (by rw [bS_size]; exact h) w
  rw [this]
  have e : (l.drop i).take 1 = [l[i]] := by rw [List.drop_eq_getElem_cons h]; rfl
  rw [e]
  have e2 : numB [l[i]] = l[i].toNat := by simp [numB]
  rw [e2]; rfl
theorem numB1_lt (l : List UInt8) (i : Nat) : numB ((l.drop i).take 1) < 256 := by
  have := numB_lt ((l.drop i).take 1) ((l.drop i).take 1).length (Nat.le_refl _)
  rw [List.take_of_length_le (Nat.le_refl _)] at this
  have h1 : ((l.drop i).take 1).length ≤ 1 := by rw [List.length_take]; omega
  have h2 : 256 ^ ((l.drop i).take 1).length ≤ 256 ^ 1 := Nat.pow_le_pow_right (by omega) h1
  omega
end Gt
end Go.Proofs.YtdfdjampodkpgaaDoor
