/- Words of a text. -/
import Derived.Test.YtmeoeihfgmmgmaaTagWalks4
import Derived.Test.YtmeoeihfgmmgmaaRd
import Derived.Deep.OwnRows
import Derived.Deep.RegionWith
import Derived.Laws.IdiomStrings
set_option linter.unusedVariables false
namespace Go.Proofs.Ytmeoeihfgmmgmaa
open Go.RowKit
namespace Tg
def eW (x : W64) : List Value := [.int .u64 (wi x)]
structure Tw (W w : World) (g n : Nat) (T : Nat → W64) : Prop where
  below : Below W.heap.size W w
  ge : W.heap.size ≤ g
  lt : g < w.heap.size
  cell : ∀ j : Nat, j < n → w.cell? ⟨g, j, none⟩ = some (.int .u64 (wi (T j)))
  froz : ∀ j : Nat, w.frozen? ⟨g, j, none⟩ = false
section
variable {W w w' : World} {g n : Nat} {T : Nat → W64}
theorem Tw.next (h : Tw W w g n T) (hb : Below w.heap.size w w') : Tw W w' g n T :=
  ⟨h.below.trans (hb.mono h.below.size), h.ge, kl hb h.lt, fun j hj => (hb.cell (p := ⟨g, j, none⟩) h.lt).trans (h.cell j hj), fun j => (hb.frozen (p := ⟨g, j, none⟩) h.lt).trans (h.froz j)⟩
theorem Tw.dr (h : Tw W w g n T) (m : Nat) : Tw W (w.drewN m) g n T := ⟨⟨h.below.os, h.below.tape, h.below.output, h.below.size, h.below.block⟩, h.ge, h.lt, h.cell, h.froz⟩
theorem Tw.set (h : Tw W w g n T) (k : Nat) (hk : k < n) (x : W64) : Tw W (w.setCell ⟨g, k, none⟩ (.int .u64 (wi x))) g n (fun j => if j = k then x else T j) := by
  refine ⟨h.below.setCell h.ge _, h.ge, ?_, fun j hj => ?_, fun j => ?_⟩
  · have := h.lt; simpa using this
  · by_cases e : j = k
    · subst e; rw [if_pos rfl]; exact World.cell?_setCell_same w _ _ (h.cell j hj)
    · rw [if_neg e, World.cell?_setCell_other w _ _ _ (by intro e2; injection e2; omega)]
      exact h.cell j hj
  · rw [World.frozen?_setCell]; exact h.froz j
end
theorem Tw.congr {W w : World} {g n : Nat} {T T' : Nat → W64} (h : Tw W w g n T) (e : ∀ j, T j = T' j) : Tw W w g n T' := ⟨h.below, h.ge, h.lt, fun j hj => by rw [← e j]; exact h.cell j hj, h.froz⟩
theorem u64_info : (Try.prog.info? 23).map (fun i => (i.zero, i.size, i.bytes)) = some (some (.int .u64 0), 1, 8) := by kernel_rfl
theorem byteW_wi (b : UInt8) : ((b.toNat : Nat) : Int) = wi (byteW b) := by
  unfold wi byteW
  have := b.toNat_lt
  rw [BitVec.toNat_ofNat, Nat.mod_eq_of_lt (by omega)]
theorem byteW_lt (b : UInt8) : wi (byteW b) < 256 := by rw [← byteW_wi]; have := b.toNat_lt; omega
theorem shl_b (b : UInt8) (k : Nat) (h : k ≤ 56) : wi (byteW b) * 2 ^ k = wi (byteW b <<< k) := by
  rw [← shl_w]
  have h1 := byteW_lt b
  have h0 := (wi_bd (byteW b)).1
  have h2 : (2 : Int) ^ k ≤ 2 ^ 56 := by
    have : (2 : Nat) ^ k ≤ 2 ^ 56 := Nat.pow_le_pow_right (by omega) h
    exact_mod_cast this
  have h3 : (0 : Int) < 2 ^ k := by
    have : 0 < (2 : Nat) ^ k := Nat.pow_pos (by omega)
    exact_mod_cast this
  rw [IntKind.wrap_u64, Int.emod_eq_of_lt (Int.mul_nonneg h0 (by omega))]
  have h4 : wi (byteW b) * 2 ^ k ≤ 255 * 2 ^ 56 := Int.mul_le_mul (by omega) h2 (by omega) (by omega)
  have h5 : (2 : Int) ^ 56 = 72057594037927936 := by decide
  rw [h5] at h4
  omega
def WordsQ (l : List UInt8) (w : World) (e : Ending) (w' : World) : Prop :=
  ∃ g N, e = .returned (.slice (some ⟨g, 0, none⟩) N N) ∧ w.heap.size ≤ g ∧ g < w'.heap.size ∧ N = (words l).length ∧ N ≤ 140737488355328 ∧ (∀ i, i < N → w'.cell? ⟨g, i, none⟩ = some (.int .u64 (wi ((words l).getD i 0)))) ∧ Below w.heap.size w w'
set_option maxHeartbeats 2000000 in
set_option maxRecDepth 100000 in
theorem words_any (s : ByteArray) (w : World) (hs : s.size ≤ 140737488351232) : Calls Try.prog 34 #[.string s] w (WordsQ s.data.toList w) := by
  have hcv := fun w => run_bytes_of_string (P := Try.prog) w 9 51 5 s Try.underlying9 Try.underlying51 Try.underlying5
  obtain ⟨N, hN⟩ : ∃ N : Nat, N = s.size / 8 + 1 := ⟨_, rfl⟩
  have hmk := fun w => run_make_row' (P := Try.prog) 61 23 (.int .u64 0) 8 Try.underlying61 u64_info rfl .i64 .i64 N (by omega) (by omega) w
  have hN1 : (s.size : Int) / 8 + 1 = (N : Int) := by omega
  have hN0 : N = s.size / 8 + 1 := hN
  have HN := Lib.hid hN0
  clear hN hN0
  go_enter Try.func34, Try.ntmps34
  go_wp2_with fail
  obtain ⟨w0, hw0⟩ : ∃ w0, w0 = (w.alloc (.cells (madeCells #[.int .u64 0] N) 23)).alloc (.cells (bytesRow s (grownCap (w.alloc (.cells (madeCells #[.int .u64 0] N) 23)) s.size 0 5)) 5 ((bytesRow s (grownCap (w.alloc (.cells (madeCells #[.int .u64 0] N) 23)) s.size 0 5)).size, (bytesRow s (grownCap (w.alloc (.cells (madeCells #[.int .u64 0] N) 23)) s.size 0 5)).size + 1)) := ⟨_, rfl⟩
  have hs1 : (w.alloc (.cells (madeCells #[.int .u64 0] N) 23)).heap.size = w.heap.size + 1 := by simp
  have hT0 : Tw w w0 w.heap.size N (wordAt s.data.toList 0) := by
    rw [hw0]
    have hb := (br (w.alloc (.cells (madeCells #[.int .u64 0] N) 23))).alloc (Nat.le_refl _) (.cells (bytesRow s (grownCap (w.alloc (.cells (madeCells #[.int .u64 0] N) 23)) s.size 0 5)) 5 ((bytesRow s (grownCap (w.alloc (.cells (madeCells #[.int .u64 0] N) 23)) s.size 0 5)).size, (bytesRow s (grownCap (w.alloc (.cells (madeCells #[.int .u64 0] N) 23)) s.size 0 5)).size + 1))
    refine ⟨((br w).alloc (Nat.le_refl _) _).alloc (by simp) _, Nat.le_refl _, by simp; omega, fun j hj => ?_, fun j => ?_⟩
    · rw [hb.cell (p := ⟨w.heap.size, j, none⟩) (by simp), World.cell?_alloc_mark]
      simp [madeCells, hj, Nat.mod_one, wordAt]; rfl
    · rw [hb.frozen (p := ⟨w.heap.size, j, none⟩) (by simp), World.frozen?_alloc_mark]; simp
  have hby : ∀ p, p < s.size → w0.cell? ⟨w.heap.size + 1, p, none⟩ = some (.int .u8 (wi (byteW (s.data.toList.getD p 0)))) := fun p hp => by
    rw [hw0, ← hs1, World.cell?_alloc_mark, bytesRow_at s _ p hp, byteW_wi]
    congr 3
    rw [List.getD_eq_getElem?_getD, List.getElem?_eq_getElem (by simpa using hp)]; simp
  have HT0 := Lib.hid hT0; have HBY := Lib.hid hby
  have HW0 := Lib.hid hw0
  clear hT0 hby hs1 hw0 hcv hmk
  go_loopw [14] (fun i wr => ∃ k : Nat, k ≤ s.size ∧ i = .int .i64 k ∧ Tw w wr w.heap.size N (wordAt s.data.toList k) ∧ RowKit.Hid (∀ p, p < s.size → wr.cell? ⟨w.heap.size + 1, p, none⟩ = some (.int .u8 (wi (byteW (s.data.toList.getD p 0)))))) (fun i _ => s.size - (intOf i).toNat)
  case atStart =>
    have := HW0.out
    subst this
    exact ⟨0, Nat.zero_le _, rfl, HT0.out.dr 1, Lib.hid (fun p hp => HBY.out p hp)⟩
  case round =>
    obtain ⟨k, hk, rfl, hT, HB⟩ := hrel
    clear HT0 HBY HW0
    by_cases hlt : k < s.size
    · have cb := HB.out k hlt
      obtain ⟨c, hc⟩ : ∃ c, s.data.toList.getD k 0 = c := ⟨_, rfl⟩
      rw [hc] at cb
      have Hc := Lib.hid hc; clear hc
      have hcl := byteW_lt c
      have hc0 := (wi_bd (byteW c)).1
      obtain ⟨q, hq⟩ : ∃ q : Nat, q = k / 8 := ⟨_, rfl⟩
      have hqN : q < N := by have := HN.out; omega
      have e1 : (k : Int) / 8 = (q : Int) := by omega
      have e1' : (k : Int).tdiv 8 = (q : Int) := by rw [Int.tdiv_eq_ediv_of_nonneg (by omega)]; exact e1
      have ecw : IntKind.u64.wrap (wi (byteW c)) = wi (byteW c) := by rw [IntKind.wrap_u64]; omega
      have e1w : IntKind.i64.wrap (q : Int) = (q : Int) := IntWalk.i64_in _ (by omega)
      have cq := hT.cell q hqN
      have fq := hT.froz q
      have i0 : (0 : Int) ≤ (q : Int) := by omega
      have i1 : (q : Int) < (N : Int) := by omega
      have HT := Lib.hid hT; clear hT
      have HQ := Lib.hid hq; clear hq
      rcases (show k % 8 = 0 ∨ k % 8 = 1 ∨ k % 8 = 2 ∨ k % 8 = 3 ∨ k % 8 = 4 ∨ k % 8 = 5 ∨ k % 8 = 6 ∨ k % 8 = 7 by omega) with hr | hr | hr | hr | hr | hr | hr | hr
      · have e2 : (k : Int) % 8 = 0 := by omega
        have e2' : (k : Int).tmod 8 = 0 := by rw [Int.tmod_eq_emod_of_nonneg (by omega)]; exact e2
        have e5 : IntKind.i64.wrap 0 = 0 := by decide
        have hstep : ∀ j, (fun j => if j = q then wordAt s.data.toList k q ||| byteW c else wordAt s.data.toList k j) j = wordAt s.data.toList (k + 1) j := fun j => by
          show (if j = q then _ else _) = _
          rw [wordAt]
          rw [show k / 8 = q by omega, show k % 8 = 0 by omega]
          by_cases e : j = q
          · subst e; simp only [if_true]; rw [Hc.out]; simp
          · rw [if_neg e, if_neg e]
        have HSTEP := Lib.hid hstep; clear hstep
        have e4 := or_w (wordAt s.data.toList k q) (byteW c)
        go_wp2_with fail
        go_region_with (fail)
        all_goals
          go_wp2
          have hT2 := Lib.hid (((HT.out.set q hqN (wordAt s.data.toList k q ||| byteW c)).dr 1).congr HSTEP.out)
          have hB2 : RowKit.Hid (∀ p, p < s.size → ((wr.setCell ⟨w.heap.size, q, none⟩ (.int .u64 (wi (wordAt s.data.toList k q ||| byteW c)))).drew).cell? ⟨w.heap.size + 1, p, none⟩ = some (.int .u8 (wi (byteW (s.data.toList.getD p 0))))) := Lib.hid (fun p hp => (World.cell?_setCell_other wr ⟨w.heap.size, q, none⟩ ⟨w.heap.size + 1, p, none⟩ _ (by intro e; injection e; omega)).trans (HB.out p hp))
          go_roundw
          case rel => exact ⟨k + 1, by omega, by go_num, hT2.out, hB2⟩
          case measure => simp [intOf]; omega
      · have e2 : (k : Int) % 8 = 1 := by omega
        have e2' : (k : Int).tmod 8 = 1 := by rw [Int.tmod_eq_emod_of_nonneg (by omega)]; exact e2
        have e5 : IntKind.i64.wrap 8 = 8 := by decide
        have e6 : IntKind.u64.wrap (wi (byteW c) * 256) = wi (byteW c <<< 8) := by have h := shl_w (byteW c) 8; rw [show (2 : Int) ^ 8 = 256 by decide] at h; exact h
        have e3 : wi (byteW c) * 256 = wi (byteW c <<< 8) := by have h := shl_b c 8 (by omega); rw [show (2 : Int) ^ 8 = 256 by decide] at h; exact h
        have hstep : ∀ j, (fun j => if j = q then wordAt s.data.toList k q ||| (byteW c <<< 8) else wordAt s.data.toList k j) j = wordAt s.data.toList (k + 1) j := fun j => by
          show (if j = q then _ else _) = _
          rw [wordAt]
          rw [show k / 8 = q by omega, show k % 8 = 1 by omega]
          by_cases e : j = q
          · subst e; simp only [if_true]; rw [Hc.out]
          · rw [if_neg e, if_neg e]
        have HSTEP := Lib.hid hstep; clear hstep
        have e4 := or_w (wordAt s.data.toList k q) (byteW c <<< 8)
        go_wp2_with fail
        go_region_with (fail)
        all_goals
          go_wp2
          have hT2 := Lib.hid (((HT.out.set q hqN (wordAt s.data.toList k q ||| byteW c <<< 8)).dr 1).congr HSTEP.out)
          have hB2 : RowKit.Hid (∀ p, p < s.size → ((wr.setCell ⟨w.heap.size, q, none⟩ (.int .u64 (wi (wordAt s.data.toList k q ||| byteW c <<< 8)))).drew).cell? ⟨w.heap.size + 1, p, none⟩ = some (.int .u8 (wi (byteW (s.data.toList.getD p 0))))) := Lib.hid (fun p hp => (World.cell?_setCell_other wr ⟨w.heap.size, q, none⟩ ⟨w.heap.size + 1, p, none⟩ _ (by intro e; injection e; omega)).trans (HB.out p hp))
          go_roundw
          case rel => exact ⟨k + 1, by omega, by go_num, hT2.out, hB2⟩
          case measure => simp [intOf]; omega
      · have e2 : (k : Int) % 8 = 2 := by omega
        have e2' : (k : Int).tmod 8 = 2 := by rw [Int.tmod_eq_emod_of_nonneg (by omega)]; exact e2
        have e5 : IntKind.i64.wrap 16 = 16 := by decide
        have e6 : IntKind.u64.wrap (wi (byteW c) * 65536) = wi (byteW c <<< 16) := by have h := shl_w (byteW c) 16; rw [show (2 : Int) ^ 16 = 65536 by decide] at h; exact h
        have e3 : wi (byteW c) * 65536 = wi (byteW c <<< 16) := by have h := shl_b c 16 (by omega); rw [show (2 : Int) ^ 16 = 65536 by decide] at h; exact h
        have hstep : ∀ j, (fun j => if j = q then wordAt s.data.toList k q ||| (byteW c <<< 16) else wordAt s.data.toList k j) j = wordAt s.data.toList (k + 1) j := fun j => by
          show (if j = q then _ else _) = _
          rw [wordAt]
          rw [show k / 8 = q by omega, show k % 8 = 2 by omega]
          by_cases e : j = q
          · subst e; simp only [if_true]; rw [Hc.out]
          · rw [if_neg e, if_neg e]
        have HSTEP := Lib.hid hstep; clear hstep
        have e4 := or_w (wordAt s.data.toList k q) (byteW c <<< 16)
        go_wp2_with fail
        go_region_with (fail)
        all_goals
          go_wp2
          have hT2 := Lib.hid (((HT.out.set q hqN (wordAt s.data.toList k q ||| byteW c <<< 16)).dr 1).congr HSTEP.out)
          have hB2 : RowKit.Hid (∀ p, p < s.size → ((wr.setCell ⟨w.heap.size, q, none⟩ (.int .u64 (wi (wordAt s.data.toList k q ||| byteW c <<< 16)))).drew).cell? ⟨w.heap.size + 1, p, none⟩ = some (.int .u8 (wi (byteW (s.data.toList.getD p 0))))) := Lib.hid (fun p hp => (World.cell?_setCell_other wr ⟨w.heap.size, q, none⟩ ⟨w.heap.size + 1, p, none⟩ _ (by intro e; injection e; omega)).trans (HB.out p hp))
          go_roundw
          case rel => exact ⟨k + 1, by omega, by go_num, hT2.out, hB2⟩
          case measure => simp [intOf]; omega
      · have e2 : (k : Int) % 8 = 3 := by omega
        have e2' : (k : Int).tmod 8 = 3 := by rw [Int.tmod_eq_emod_of_nonneg (by omega)]; exact e2
        have e5 : IntKind.i64.wrap 24 = 24 := by decide
        have e6 : IntKind.u64.wrap (wi (byteW c) * 16777216) = wi (byteW c <<< 24) := by have h := shl_w (byteW c) 24; rw [show (2 : Int) ^ 24 = 16777216 by decide] at h; exact h
        have e3 : wi (byteW c) * 16777216 = wi (byteW c <<< 24) := by have h := shl_b c 24 (by omega); rw [show (2 : Int) ^ 24 = 16777216 by decide] at h; exact h
        have hstep : ∀ j, (fun j => if j = q then wordAt s.data.toList k q ||| (byteW c <<< 24) else wordAt s.data.toList k j) j = wordAt s.data.toList (k + 1) j := fun j => by
          show (if j = q then _ else _) = _
          rw [wordAt]
          rw [show k / 8 = q by omega, show k % 8 = 3 by omega]
          by_cases e : j = q
          · subst e; simp only [if_true]; rw [Hc.out]
          · rw [if_neg e, if_neg e]
        have HSTEP := Lib.hid hstep; clear hstep
        have e4 := or_w (wordAt s.data.toList k q) (byteW c <<< 24)
        go_wp2_with fail
        go_region_with (fail)
        all_goals
          go_wp2
          have hT2 := Lib.hid (((HT.out.set q hqN (wordAt s.data.toList k q ||| byteW c <<< 24)).dr 1).congr HSTEP.out)
          have hB2 : RowKit.Hid (∀ p, p < s.size → ((wr.setCell ⟨w.heap.size, q, none⟩ (.int .u64 (wi (wordAt s.data.toList k q ||| byteW c <<< 24)))).drew).cell? ⟨w.heap.size + 1, p, none⟩ = some (.int .u8 (wi (byteW (s.data.toList.getD p 0))))) := Lib.hid (fun p hp => (World.cell?_setCell_other wr ⟨w.heap.size, q, none⟩ ⟨w.heap.size + 1, p, none⟩ _ (by intro e; injection e; omega)).trans (HB.out p hp))
          go_roundw
          case rel => exact ⟨k + 1, by omega, by go_num, hT2.out, hB2⟩
          case measure => simp [intOf]; omega
      · have e2 : (k : Int) % 8 = 4 := by omega
        have e2' : (k : Int).tmod 8 = 4 := by rw [Int.tmod_eq_emod_of_nonneg (by omega)]; exact e2
        have e5 : IntKind.i64.wrap 32 = 32 := by decide
        have e6 : IntKind.u64.wrap (wi (byteW c) * 4294967296) = wi (byteW c <<< 32) := by have h := shl_w (byteW c) 32; rw [show (2 : Int) ^ 32 = 4294967296 by decide] at h; exact h
        have e3 : wi (byteW c) * 4294967296 = wi (byteW c <<< 32) := by have h := shl_b c 32 (by omega); rw [show (2 : Int) ^ 32 = 4294967296 by decide] at h; exact h
        have hstep : ∀ j, (fun j => if j = q then wordAt s.data.toList k q ||| (byteW c <<< 32) else wordAt s.data.toList k j) j = wordAt s.data.toList (k + 1) j := fun j => by
          show (if j = q then _ else _) = _
          rw [wordAt]
          rw [show k / 8 = q by omega, show k % 8 = 4 by omega]
          by_cases e : j = q
          · subst e; simp only [if_true]; rw [Hc.out]
          · rw [if_neg e, if_neg e]
        have HSTEP := Lib.hid hstep; clear hstep
        have e4 := or_w (wordAt s.data.toList k q) (byteW c <<< 32)
        go_wp2_with fail
        go_region_with (fail)
        all_goals
          go_wp2
          have hT2 := Lib.hid (((HT.out.set q hqN (wordAt s.data.toList k q ||| byteW c <<< 32)).dr 1).congr HSTEP.out)
          have hB2 : RowKit.Hid (∀ p, p < s.size → ((wr.setCell ⟨w.heap.size, q, none⟩ (.int .u64 (wi (wordAt s.data.toList k q ||| byteW c <<< 32)))).drew).cell? ⟨w.heap.size + 1, p, none⟩ = some (.int .u8 (wi (byteW (s.data.toList.getD p 0))))) := Lib.hid (fun p hp => (World.cell?_setCell_other wr ⟨w.heap.size, q, none⟩ ⟨w.heap.size + 1, p, none⟩ _ (by intro e; injection e; omega)).trans (HB.out p hp))
          go_roundw
          case rel => exact ⟨k + 1, by omega, by go_num, hT2.out, hB2⟩
          case measure => simp [intOf]; omega
      · have e2 : (k : Int) % 8 = 5 := by omega
        have e2' : (k : Int).tmod 8 = 5 := by rw [Int.tmod_eq_emod_of_nonneg (by omega)]; exact e2
        have e5 : IntKind.i64.wrap 40 = 40 := by decide
        have e6 : IntKind.u64.wrap (wi (byteW c) * 1099511627776) = wi (byteW c <<< 40) := by have h := shl_w (byteW c) 40; rw [show (2 : Int) ^ 40 = 1099511627776 by decide] at h; exact h
        have e3 : wi (byteW c) * 1099511627776 = wi (byteW c <<< 40) := by have h := shl_b c 40 (by omega); rw [show (2 : Int) ^ 40 = 1099511627776 by decide] at h; exact h
        have hstep : ∀ j, (fun j => if j = q then wordAt s.data.toList k q ||| (byteW c <<< 40) else wordAt s.data.toList k j) j = wordAt s.data.toList (k + 1) j := fun j => by
          show (if j = q then _ else _) = _
          rw [wordAt]
          rw [show k / 8 = q by omega, show k % 8 = 5 by omega]
          by_cases e : j = q
          · subst e; simp only [if_true]; rw [Hc.out]
          · rw [if_neg e, if_neg e]
        have HSTEP := Lib.hid hstep; clear hstep
        have e4 := or_w (wordAt s.data.toList k q) (byteW c <<< 40)
        go_wp2_with fail
        go_region_with (fail)
        all_goals
          go_wp2
          have hT2 := Lib.hid (((HT.out.set q hqN (wordAt s.data.toList k q ||| byteW c <<< 40)).dr 1).congr HSTEP.out)
          have hB2 : RowKit.Hid (∀ p, p < s.size → ((wr.setCell ⟨w.heap.size, q, none⟩ (.int .u64 (wi (wordAt s.data.toList k q ||| byteW c <<< 40)))).drew).cell? ⟨w.heap.size + 1, p, none⟩ = some (.int .u8 (wi (byteW (s.data.toList.getD p 0))))) := Lib.hid (fun p hp => (World.cell?_setCell_other wr ⟨w.heap.size, q, none⟩ ⟨w.heap.size + 1, p, none⟩ _ (by intro e; injection e; omega)).trans (HB.out p hp))
          go_roundw
          case rel => exact ⟨k + 1, by omega, by go_num, hT2.out, hB2⟩
          case measure => simp [intOf]; omega
      · have e2 : (k : Int) % 8 = 6 := by omega
        have e2' : (k : Int).tmod 8 = 6 := by rw [Int.tmod_eq_emod_of_nonneg (by omega)]; exact e2
        have e5 : IntKind.i64.wrap 48 = 48 := by decide
        have e6 : IntKind.u64.wrap (wi (byteW c) * 281474976710656) = wi (byteW c <<< 48) := by have h := shl_w (byteW c) 48; rw [show (2 : Int) ^ 48 = 281474976710656 by decide] at h; exact h
        have e3 : wi (byteW c) * 281474976710656 = wi (byteW c <<< 48) := by have h := shl_b c 48 (by omega); rw [show (2 : Int) ^ 48 = 281474976710656 by decide] at h; exact h
        have hstep : ∀ j, (fun j => if j = q then wordAt s.data.toList k q ||| (byteW c <<< 48) else wordAt s.data.toList k j) j = wordAt s.data.toList (k + 1) j := fun j => by
          show (if j = q then _ else _) = _
          rw [wordAt]
          rw [show k / 8 = q by omega, show k % 8 = 6 by omega]
          by_cases e : j = q
          · subst e; simp only [if_true]; rw [Hc.out]
          · rw [if_neg e, if_neg e]
        have HSTEP := Lib.hid hstep; clear hstep
        have e4 := or_w (wordAt s.data.toList k q) (byteW c <<< 48)
        go_wp2_with fail
        go_region_with (fail)
        all_goals
          go_wp2
          have hT2 := Lib.hid (((HT.out.set q hqN (wordAt s.data.toList k q ||| byteW c <<< 48)).dr 1).congr HSTEP.out)
          have hB2 : RowKit.Hid (∀ p, p < s.size → ((wr.setCell ⟨w.heap.size, q, none⟩ (.int .u64 (wi (wordAt s.data.toList k q ||| byteW c <<< 48)))).drew).cell? ⟨w.heap.size + 1, p, none⟩ = some (.int .u8 (wi (byteW (s.data.toList.getD p 0))))) := Lib.hid (fun p hp => (World.cell?_setCell_other wr ⟨w.heap.size, q, none⟩ ⟨w.heap.size + 1, p, none⟩ _ (by intro e; injection e; omega)).trans (HB.out p hp))
          go_roundw
          case rel => exact ⟨k + 1, by omega, by go_num, hT2.out, hB2⟩
          case measure => simp [intOf]; omega
      · have e2 : (k : Int) % 8 = 7 := by omega
        have e2' : (k : Int).tmod 8 = 7 := by rw [Int.tmod_eq_emod_of_nonneg (by omega)]; exact e2
        have e5 : IntKind.i64.wrap 56 = 56 := by decide
        have e6 : IntKind.u64.wrap (wi (byteW c) * 72057594037927936) = wi (byteW c <<< 56) := by have h := shl_w (byteW c) 56; rw [show (2 : Int) ^ 56 = 72057594037927936 by decide] at h; exact h
        have e3 : wi (byteW c) * 72057594037927936 = wi (byteW c <<< 56) := by have h := shl_b c 56 (by omega); rw [show (2 : Int) ^ 56 = 72057594037927936 by decide] at h; exact h
        have hstep : ∀ j, (fun j => if j = q then wordAt s.data.toList k q ||| (byteW c <<< 56) else wordAt s.data.toList k j) j = wordAt s.data.toList (k + 1) j := fun j => by
          show (if j = q then _ else _) = _
          rw [wordAt]
          rw [show k / 8 = q by omega, show k % 8 = 7 by omega]
          by_cases e : j = q
          · subst e; simp only [if_true]; rw [Hc.out]
          · rw [if_neg e, if_neg e]
        have HSTEP := Lib.hid hstep; clear hstep
        have e4 := or_w (wordAt s.data.toList k q) (byteW c <<< 56)
        go_wp2_with fail
        go_region_with (fail)
        all_goals
          go_wp2
          have hT2 := Lib.hid (((HT.out.set q hqN (wordAt s.data.toList k q ||| byteW c <<< 56)).dr 1).congr HSTEP.out)
          have hB2 : RowKit.Hid (∀ p, p < s.size → ((wr.setCell ⟨w.heap.size, q, none⟩ (.int .u64 (wi (wordAt s.data.toList k q ||| byteW c <<< 56)))).drew).cell? ⟨w.heap.size + 1, p, none⟩ = some (.int .u8 (wi (byteW (s.data.toList.getD p 0))))) := Lib.hid (fun p hp => (World.cell?_setCell_other wr ⟨w.heap.size, q, none⟩ ⟨w.heap.size + 1, p, none⟩ _ (by intro e; injection e; omega)).trans (HB.out p hp))
          go_roundw
          case rel => exact ⟨k + 1, by omega, by go_num, hT2.out, hB2⟩
          case measure => simp [intOf]; omega
    · obtain rfl : k = s.size := by omega
      have hNq : N = s.size / 8 + 1 := HN.out
      obtain ⟨q, hq⟩ : ∃ q : Nat, q = s.size / 8 := ⟨_, rfl⟩
      have hqN : q < N := by omega
      have cq := hT.cell q hqN
      have fq := hT.froz q
      have i0 : (0 : Int) ≤ (q : Int) := by omega
      have hqb : (q : Int) ≤ 140737488351232 := by omega
      have i1 : (q : Int) < (N : Int) := by omega
      have e1 : (N : Int) - 1 = (q : Int) := by omega
      have e2 : IntKind.u64.wrap ((s.size : Int) * 72057594037927936) = wi (BitVec.ofNat 64 s.size <<< 56) := by
        have h := shl_w (BitVec.ofNat 64 s.size) 56
        have h2 : wi (BitVec.ofNat 64 s.size) = (s.size : Int) := by
          unfold wi; rw [BitVec.toNat_ofNat, Nat.mod_eq_of_lt (by omega)]
        rw [h2, show (2 : Int) ^ 56 = 72057594037927936 by decide] at h
        exact h
      have e4 := or_w (wordAt s.data.toList s.size q) (BitVec.ofNat 64 s.size <<< 56)
      have hfin := (hT.set q hqN (wordAt s.data.toList s.size q ||| BitVec.ofNat 64 s.size <<< 56))
      have hll : s.data.toList.length = s.size := by simp
      have hlen : (words s.data.toList).length = N := by unfold words; simp; omega
      have hget : ∀ i (hi : i < (words s.data.toList).length), (words s.data.toList)[i] = if i = q then wordAt s.data.toList s.size q ||| BitVec.ofNat 64 s.size <<< 56 else wordAt s.data.toList s.size i := fun i hi => by
        unfold words
        simp only [List.getElem_map, List.getElem_range, hll]
        rw [← hq]
        by_cases e : i = q
        · subst e; simp
        · simp [e]
      have HFIN := Lib.hid hfin; have HLEN := Lib.hid hlen; have HGET := Lib.hid hget
      have hNb : N ≤ 140737488355328 := by omega
      clear hfin hlen hget hll hNq HN hT HB hlt hk hq hN1
      go_wp2
      go_ret
      have hf := HFIN.out
      refine ⟨w.heap.size, N, rfl, Nat.le_refl _, hf.lt, HLEN.out.symm, by omega, fun i hi => ?_, hf.below⟩
      rw [hf.cell i hi, List.getD_eq_getElem?_getD, List.getElem?_eq_getElem (by rw [HLEN.out]; exact hi)]
      simp only [Option.getD_some]
      rw [HGET.out i (by rw [HLEN.out]; exact hi)]
end Tg
end Go.Proofs.Ytmeoeihfgmmgmaa
