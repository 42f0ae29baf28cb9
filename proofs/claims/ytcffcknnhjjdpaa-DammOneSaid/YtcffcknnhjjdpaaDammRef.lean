/- The document's functions on the digits and their contracts. -/
import Derived.Test.YtcffcknnhjjdpaaDammWalks
import Derived.WalkSpells
namespace Go.Proofs.Ytcffcknnhjjdpaa
open Go.RowKit
namespace Dm

def rowB (r : Int) : ByteArray := ⟨((List.range 10).map fun d => UInt8.ofNat (tabN (10 * r.toNat + d) + 48)).toArray⟩
theorem rowB_size (r : Int) : (rowB r).size = 10 := rfl
def RowQ (r : Int) (w : World) (e : Ending) (w' : World) : Prop := e = .returned (.string (rowB r)) ∧ Below w.heap.size w w'
set_option maxHeartbeats 1000000 in
theorem row_any (r : Int) (w : World) (h0 : 0 ≤ r) (h1 : r ≤ 9) : Calls Try.prog 17 #[.int .i64 r] w (RowQ r w) := by
  rcases (show r = 0 ∨ r = 1 ∨ r = 2 ∨ r = 3 ∨ r = 4 ∨ r = 5 ∨ r = 6 ∨ r = 7 ∨ r = 8 ∨ r = 9 by omega) with rfl | rfl | rfl | rfl | rfl | rfl | rfl | rfl | rfl | rfl
  all_goals
    go_enter Try.func17, Try.ntmps17
    go_wp2
    go_ret
    exact ⟨by rfl, by repeat (first | exact Below.refl _ _ | refine Below.alloc ?_ (by simp) _ | apply Below.drew)⟩

theorem rowB_at : ∀ r : Fin 10, ∀ d : Fin 10, ((((rowB (r.val : Int))[d.val]'(show d.val < (rowB _).size from d.isLt)).toNat : Int) - 48) = tab r.val d.val := by decide
theorem rowB_get (r d : Int) (h0 : 0 ≤ r) (h1 : r ≤ 9) (h2 : 0 ≤ d) (h3 : d ≤ 9) (h : d.toNat < (rowB r).size) : (((rowB r)[d.toNat]'h).toNat : Int) - 48 = tab r d := by
  obtain ⟨n, rfl⟩ := Int.eq_ofNat_of_zero_le h0
  obtain ⟨m, rfl⟩ := Int.eq_ofNat_of_zero_le h2
  exact rowB_at ⟨n, by omega⟩ ⟨m, by omega⟩
def StepRQ (r d : Int) (w : World) (e : Ending) (w' : World) : Prop := e = .returned (.tuple #[.int .i64 (stepF r d).1, .int .i64 (stepF r d).2]) ∧ Below w.heap.size w w'
set_option maxHeartbeats 1000000 in
theorem stepR_any (r d : Int) (w : World) : Calls Try.prog 13 #[.int .i64 r, .int .i64 d] w (StepRQ r d w) := by
  by_cases h : r < 0 ∨ r > 9 ∨ d < 0 ∨ d > 9
  · have hf : stepF r d = (0, 3) := by simp [stepF, h]
    have Hf := Lib.hid hf; clear hf
    go_enter Try.func13, Try.ntmps13
    go_wp2_with fail
    all_goals try omega
    all_goals go_ret2; exact ⟨by rw [Hf.out]; rfl, Below.refl _ _⟩
  · have hf : stepF r d = (tab r d, 0) := by simp [stepF, h]
    have Hf := Lib.hid hf; clear hf
    have h0 : 0 ≤ r := by omega
    have h1 : r ≤ 9 := by omega
    have h2 : 0 ≤ d := by omega
    have h3 : d ≤ 9 := by omega
    clear h
    have hsz : d < ((rowB r).size : Int) := by rw [rowB_size]; omega
    go_enter Try.func13, Try.ntmps13
    go_wp2_with fail
    refine (row_any r w h0 h1).mono ?_; rintro en w' ⟨rfl, hbel⟩
    go_wp2
    go_ret2
    refine ⟨?_, hbel⟩
    have hd : d.toNat < (rowB r).size := by rw [rowB_size]; omega
    have hg := rowB_get r d h0 h1 h2 h3 hd
    have hb := ((rowB r)[d.toNat]'hd).toNat_lt
    have e1 : wrap64 (wrap64 (((rowB r)[d.toNat]'hd).toNat : Int) - 48) = tab r d := by
      rw [IntWalk.wrap64_in (((rowB r)[d.toNat]'hd).toNat : Int) (by omega), IntWalk.wrap64_in _ (by omega), hg]
    rw [Hf.out, ← e1]
    rfl

end Dm
end Go.Proofs.Ytcffcknnhjjdpaa
