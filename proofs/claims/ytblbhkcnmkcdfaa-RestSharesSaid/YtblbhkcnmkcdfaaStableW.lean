/- The library's stable sort at ints: exchanges, ranges exchanged, a middle piece turned about. -/
import Derived.Test.YtblbhkcnmkcdfaaProg
import Derived.Test.YtblbhkcnmkcdfaaStablePlain
import Derived.Test.YtblbhkcnmkcdfaaKept
import Derived.IntWalk
import Derived.BigRegion
import Derived.Deep.Draws
set_option linter.unusedSimpArgs false
set_option linter.unusedVariables false
namespace Go.Proofs.Ytblbhkcnmkcdfaa
open Go.RowKit
namespace Stb
/-- a row of ints in a block, told by its places -/
structure At (w : World) (blk N : Nat) (d : Arr) : Prop where
  cell : ∀ i, i < N → w.cell? ⟨blk, i, none⟩ = some (.int .i64 (d i))
  froz : ∀ i, i < N → w.frozen? ⟨blk, i, none⟩ = false
structure St (w0 : World) (blk N : Nat) (d : Arr) (w : World) : Prop where
  at_ : At w blk N d
  kept : KeptB [blk] w0 w
section
variable {w0 w : World} {blk N : Nat} {d : Arr}
theorem St.drewN (h : St w0 blk N d w) (n : Nat) : St w0 blk N d (w.drewN n) := ⟨⟨fun i hi => h.at_.cell i hi, fun i hi => h.at_.froz i hi⟩, h.kept.drewN n⟩
theorem St.drew (h : St w0 blk N d w) : St w0 blk N d w.drew := h.drewN 1
theorem At.set (h : At w blk N d) (i : Nat) (hi : i < N) (x : Int) : At (w.setCell ⟨blk, i, none⟩ (.int .i64 x)) blk N (fun k => if k = i then x else d k) := by
  refine ⟨fun k hk => ?_, fun k hk => by rw [World.frozen?_setCell]; exact h.froz k hk⟩
  by_cases c : k = i
  · subst c
    show _ = some (Value.int .i64 (if k = k then x else d k))
    rw [if_pos rfl]
    exact World.cell?_setCell_same w _ _ (h.cell k hk)
  · show _ = some (Value.int .i64 (if k = i then x else d k))
    rw [if_neg c, World.cell?_setCell_other w _ _ _ (by intro e; injection e with _ e2; exact c e2.symm)]
    exact h.cell k hk
theorem St.swp (h : St w0 blk N d w) (i j : Nat) (hi : i < N) (hj : j < N) : St w0 blk N (swp d i j) ((w.setCell ⟨blk, j, none⟩ (.int .i64 (d i))).setCell ⟨blk, i, none⟩ (.int .i64 (d j))) := by
  have e : Stb.swp d i j = fun k => if k = i then d j else (if k = j then d i else d k) := rfl
  rw [e]
  exact ⟨(h.at_.set j hj _).set i hi _, (h.kept.set _ _ _ (.inl (by simp))).set _ _ _ (.inl (by simp))⟩
theorem St.swp' (h : St w0 blk N d w) (i j : Nat) (hi : i < N) (hj : j < N) (hn : i ≠ j) : St w0 blk N (Stb.swp d i j) ((w.setCell ⟨blk, i, none⟩ (.int .i64 (d j))).setCell ⟨blk, j, none⟩ (.int .i64 (d i))) := by
  have e : Stb.swp d i j = fun k => if k = j then d i else (if k = i then d j else d k) := funext fun k => by
    unfold Stb.swp
    by_cases c : k = i
    · rw [if_pos c, if_neg (by omega), if_pos c]
    · rw [if_neg c, if_neg c]
  rw [e]
  exact ⟨(h.at_.set i hi _).set j hj _, (h.kept.set _ _ _ (.inl (by simp))).set _ _ _ (.inl (by simp))⟩
end
abbrev fv (bc : Nat) : Value := .func (.func 22) #[] #[.pointer (some ⟨bc, 0, none⟩)]
abbrev StQ (w0 : World) (blk N : Nat) (d : Arr) (e : Ending) (w' : World) : Prop := e = .returned (.tuple #[]) ∧ St w0 blk N d w'
set_option maxRecDepth 100000 in
set_option maxHeartbeats 2000000 in
theorem swapRange_any (w0 : World) (blk N cap bc : Nat) (d : Arr) (a b n : Nat) (w : World) (h : St w0 blk N d w) (hab : a + n ≤ b) (hbn : b + n ≤ N) (hN : N ≤ 1000) :
    Calls Try.prog 34 #[.slice (some ⟨blk, 0, none⟩) N cap, .int .i64 a, .int .i64 b, .int .i64 n, fv bc] w (StQ w0 blk N (xch d a b n)) := by
  have H0 := Lib.hid h
  clear h
  go_enter Try.func34, Try.ntmps34
  go_wp2
  go_loopw [10] (fun i wr => ∃ k : Nat, k ≤ n ∧ i = .int .i64 k ∧ St w0 blk N (xch d a b k) wr) (fun i _ => n - (intOf i).toNat)
  case atStart => exact ⟨0, Nat.zero_le _, rfl, by rw [xch_zero]; exact H0.out⟩
  case round =>
    obtain ⟨k, hk, rfl, hs⟩ := hrel
    have HS := Lib.hid hs
    by_cases hlt : k < n
    · have q0 := hs.at_.cell (a + k) (by omega)
      have q1 := hs.at_.cell (b + k) (by omega)
      have f0 := hs.at_.froz (a + k) (by omega)
      have f1 := hs.at_.froz (b + k) (by omega)
      have HE := Lib.hid (hs.swp' (a + k) (b + k) (by omega) (by omega) (by omega))
      have HX := Lib.hid (xch_succ d a b k (by omega))
      clear hs
      generalize xch d a b k (a + k) = x at *
      generalize xch d a b k (b + k) = y at *
      have a0 : IntKind.i64.wrap ((a : Int) + (k : Int)) = (a : Int) + (k : Int) := IntWalk.i64_in _ (by omega)
      have a1 : IntKind.i64.wrap ((b : Int) + (k : Int)) = (b : Int) + (k : Int) := IntWalk.i64_in _ (by omega)
      have a2 : ((a : Int) + (k : Int)).toNat = a + k := by omega
      have a3 : ((b : Int) + (k : Int)).toNat = b + k := by omega
      have a4 : (a : Int) + (k : Int) < (N : Int) := by omega
      have a5 : (b : Int) + (k : Int) < (N : Int) := by omega
      have a6 : (0 : Int) ≤ (a : Int) + (k : Int) := by omega
      have a7 : (0 : Int) ≤ (b : Int) + (k : Int) := by omega
      have a8 : a + k ≠ b + k := by omega
      go_wp2_with fail
      go_region
      go_wp2
      go_roundw
      case rel => exact ⟨k + 1, by omega, by go_num, by rw [HX.out]; exact HE.out.drew⟩
      case measure => simp [intOf]; omega
    · have ek : k = n := by omega
      subst ek
      go_wp2
      go_end0
      exact ⟨rfl, HS.out⟩
end Stb
end Go.Proofs.Ytblbhkcnmkcdfaa
