/- Gate: bytes that are got behind a pointer, or a panic. -/
import Derived.Test.YtdfdjampodkpgaaDoorJSpell
import Derived.Test.YtdfdjampodkpgaaDoorGateSink
import Derived.Recover
import Derived.WalkLawsBesides
set_option linter.unusedSimpArgs false
set_option linter.unusedVariables false
namespace Go.Proofs.YtdfdjampodkpgaaDoor
open Go.RowKit
namespace Gt
open Sl
abbrev bS (l : List UInt8) : ByteArray := ⟨l.toArray⟩
def numB : List UInt8 → Nat := List.foldl (fun n b => n * 256 + b.toNat) 0
theorem bS_size (l : List UInt8) : (bS l).size = l.length := by show l.toArray.size = _; simp
theorem bS_take (l : List UInt8) (k : Nat) : (bS l).extract 0 k = bS (l.take k) := by
  apply ByteArray.ext; simp [ByteArray.data_extract]
theorem bS_drop (l : List UInt8) (k : Nat) : (bS l).extract k (bS l).size = bS (l.drop k) := by
  apply ByteArray.ext; rw [bS_size]; simp [ByteArray.data_extract, List.take_of_length_le]
theorem numB_take (l : List UInt8) (c : Nat) (h : c < l.length) : numB (l.take (c + 1)) = numB (l.take c) * 256 + l[c].toNat := by
  unfold numB; rw [List.take_succ_eq_append_getElem h, List.foldl_append]; rfl
theorem numB_lt (l : List UInt8) (c : Nat) (h : c ≤ l.length) : numB (l.take c) < 256 ^ c := by
  induction c with
  | zero => simp [numB]
  | succ c ih =>
    rw [numB_take l c (by omega), Nat.pow_succ]
    have := ih (by omega)
    have := l[c].toNat_lt
    omega
/-- all blocks but one stay -/
def But (b : Nat) (w w' : World) : Prop := ∀ j, j < w.heap.size → j ≠ b → w'.heap[j]? = w.heap[j]?
set_option maxRecDepth 100000 in
theorem get_bad (b : Nat) (l : List UInt8) (k : Nat) (w : World) (hb : Box w b 97 [.string (bS l)]) (hk : l.length < k) (hk3 : k ≤ 3) :
    Calls Tryd.prog 60 #[.pointer (some ⟨b, 0, none⟩), .int .i64 k] w (fun e w' => e = .panicked [{ v := .iface 93 (.agg #[]), recovered := false }] ∧ Below w.heap.size w w') := by
  have f0 := hb.cell 0
  simp only [List.getElem?_cons_zero] at f0
  have hsz := bS_size l
  generalize bS l = s at *
  have i0 : ((s.size : Int) < (k : Int)) := by omega
  clear hsz hb
  go_enter Tryd.func60, Tryd.ntmps60
  go_wp2
  exact ⟨rfl, rfl, br _⟩
set_option maxRecDepth 100000 in
theorem get_ok (b : Nat) (l : List UInt8) (k : Nat) (w : World) (hb : Box w b 97 [.string (bS l)]) (hk : k ≤ l.length) (hk3 : k ≤ 3) (hl : l.length ≤ 1000) :
    Calls Tryd.prog 60 #[.pointer (some ⟨b, 0, none⟩), .int .i64 k] w (fun e w' => e = .returned (.int .i64 (numB (l.take k))) ∧ Box w' b 97 [.string (bS (l.drop k))] ∧ Below b w w' ∧ But b w w') := by
  have f0 := hb.cell 0; have z0 := hb.froz 0
  simp only [List.getElem?_cons_zero] at f0
  have hsz := bS_size l
  have i0 : ¬ ((bS l).size : Int) < (k : Int) := by omega
  have hs1 : ∀ w, (Instr.slice 9 (.string (bS l)) none (some (.int .i64 (k : Int))) none).run Tryd.prog w = .ok (.string (bS (l.take k))) w := fun w => by
    have := run_slice_string_h (P := Tryd.prog) (w := w) 9 (bS l) Tryd.underlying9 .i64 (k : Int) (by omega) (by omega)
    rw [this, Int.toNat_natCast, bS_take]
  have hs2 : ∀ w, (Instr.slice 9 (.string (bS l)) (some (.int .i64 (k : Int))) none none).run Tryd.prog w = .ok (.string (bS (l.drop k))) w := fun w => by
    have := run_slice_string_l (P := Tryd.prog) (w := w) 9 (bS l) Tryd.underlying9 .i64 (k : Int) (by omega) (by omega)
    rw [this, Int.toNat_natCast, bS_drop]
  obtain ⟨cap, W, hcv, hrd, hbW⟩ := conv_sb (bS (l.take k)) w (by rw [bS_size]; unfold maxLen; rw [List.length_take]; omega)
  have hkl : (l.take k).length = k := by rw [List.length_take]; omega
  have hlk : (bS (l.take k)).size = k := by rw [bS_size, hkl]
  rw [hlk] at hcv
  have hrd' : RdE elB W (.slice (some ⟨w.heap.size, 0, none⟩) k cap) (l.take k) := by
    have e : (bS (l.take k)).data.toList = l.take k := by simp
    rw [e, hkl] at hrd; exact hrd
  have HB := Lib.hid hb; have HRD := Lib.hid hrd'; have HBW := Lib.hid hbW; have HKL := Lib.hid hkl
  have hblt := hb.lt
  have HBX := Lib.hid (hb.next hbW)
  have HS := Lib.hid hsz
  clear hb hrd hrd' hbW hkl hlk hsz
  generalize bS (l.take k) = s1 at *
  generalize hd : bS (l.drop k) = s2 at *
  generalize bS l = s at *
  have f1 := HBX.out.cell 0; have z1 := HBX.out.froz 0
  simp only [List.getElem?_cons_zero] at f1
  go_enter Tryd.func60, Tryd.ntmps60
  go_wp2
  go_loopw [4, 24] (fun y i wr => ∃ c : Nat, c ≤ k ∧ y = .int .i64 (numB (l.take c)) ∧ i = .int .i64 c ∧ W = wr) (fun _ i _ => k - (intOf i).toNat)
  case atStart => exact ⟨0, Nat.zero_le _, rfl, rfl, rfl⟩
  case round =>
    obtain ⟨c, hc, rfl, rfl, rfl⟩ := hrel
    by_cases hct : c < k
    · obtain ⟨a0, cp, e0, h1, h2, h3⟩ := HRD.out
      injection e0 with e1 e9 e2
      clear e9 e2
      obtain ⟨g, off, rfl, hbl, hcc⟩ := h3 (by have := HKL.out; omega)
      injection e1 with e1
      have d0 := hcc c (by have := HKL.out; omega) 0 _ rfl
      have hlc : (l.take k)[c]'(by have := HKL.out; omega) = l[c] := by rw [List.getElem_take]
      rw [hlc] at d0
      injection e1 with e3 e4 e8
      clear e8
      subst e3 e4
      simp only [Nat.mul_one, Nat.add_zero, Nat.zero_add] at d0
      have HN := Lib.hid (numB_take l c (by omega))
      have hlt := numB_lt l c (by omega)
      have h256 : 256 ^ c ≤ 65536 := Nat.le_trans (Nat.pow_le_pow_right (by omega) (show c ≤ 2 by omega)) (by decide)
      have hx : l[c].toNat < 256 := l[c].toNat_lt
      generalize numB (l.take c) = L at *
      generalize l[c].toNat = x at *
      have ho := or_i64 L x 8 (by omega) (by omega)
      have hw1 : IntKind.i64.wrap ((L : Int) * 256) = (L : Int) * 256 := IntWalk.i64_in _ (by omega)
      have ho2 : bits .or .i64 ((L : Int) * 256) (x : Int) = (L : Int) * 256 + (x : Int) := by
        have h9 : ((L * 256 + x : Nat) : Int) = (L : Int) * 256 + (x : Int) := by omega
        rw [← h9, ← ho]; congr 1
      have i1 : (c : Int) < (k : Int) := by omega
      have i2 : (0 : Int) ≤ (c : Int) := by omega
      have hw2 : wrap64 (x : Int) = (x : Int) := IntWalk.wrap64_in _ (by omega)
      have i5 : IntKind.i64.wrap ((c : Int) + 1) = (c : Int) + 1 := IntWalk.i64_in _ (by omega)
      clear ho hlc hcc h3 h1 h2 hlt h256 hx
      try clear e0
      go_wp2
      go_roundw
      case rel => exact ⟨c + 1, by omega, by rw [HN.out]; simp, by go_num, by trivial⟩
      case measure => simp [intOf]; omega
    · have e : c = k := by omega
      subst e
      have i1 : ¬ (c : Int) < (c : Int) := by omega
      go_wp2
      go_ret
      refine ⟨rfl, HBX.out.set 0 _, (HBW.out.mono (Nat.le_of_lt hblt)).setCell (Nat.le_refl _) _, fun j h1 h2 => ?_⟩
      rw [Below.heap_setCell _ _ _ _ h2]
      exact HBW.out.block j h1
end Gt
end Go.Proofs.YtdfdjampodkpgaaDoor
