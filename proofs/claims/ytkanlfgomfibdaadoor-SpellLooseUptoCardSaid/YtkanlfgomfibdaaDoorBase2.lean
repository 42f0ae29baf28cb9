/- Small lemmas on calls inside a region that draws its order. -/
import Derived.Test.YtkanlfgomfibdaaDoorBase
import Derived.BigQuiet
import Derived.Lib.Hide
import Derived.Laws.IdiomStrings
import Derived.Outline
set_option linter.unusedSimpArgs false
set_option linter.unusedVariables false
namespace Go.Proofs.YtkanlfgomfibdaaDoor
open Go.RowKit
/-- a contract that leaves the world alone, for the tactic on quiet regions -/
theorem qz {P : Program} {f : FuncId} {args : Array Value} {w : World} {n : Nat} {v : Value}
    (h : Calls P f args (w.drewN n) fun e w' => e = .returned v ∧ w.drewN n = w') : Calls P f args (w.drewN n) fun e w'' => e = .returned v ∧ ∃ m, w'' = w.drewN m :=
  h.mono fun _ _ ⟨he, hm⟩ => ⟨he, n, hm.symm⟩
theorem qa {P : Program} {f : FuncId} {args : Array Value} {w : World} {a n : Nat} {v : Value}
    (h : Calls P f args (w.drewN (a + n)) fun e w' => e = .returned v ∧ w.drewN (a + n) = w') : Calls P f args (w.drewN (a + n)) fun e w'' => e = .returned v ∧ ∃ m, w'' = w.drewN (a + m) :=
  h.mono fun _ _ ⟨he, hm⟩ => ⟨he, n, hm.symm⟩
theorem asz (w : World) (o : Obj) : (w.alloc o).heap.size = w.heap.size + 1 := by simp
/-- below a 'Below' every old cell and every old mark reads as before -/
theorem bcell {B : Nat} {W w1 : World} (hb : Below B W w1) : (∀ b o, b < B → w1.cell? ⟨b, o, none⟩ = W.cell? ⟨b, o, none⟩) ∧ (∀ b o, b < B → w1.frozen? ⟨b, o, none⟩ = W.frozen? ⟨b, o, none⟩) :=
  ⟨fun b o h => hb.cell (p := ⟨b, o, none⟩) h, fun b o h => hb.frozen (p := ⟨b, o, none⟩) h⟩
/-- a block of the call's own, behind calls that leave it alone -/
theorem boxc {w w3 : World} {C : Array Value} {t : TypeId} {fr : Nat × Nat} (hB : Below (w.heap.size + 1) (w.alloc (.cells C t fr)) w3) (j : Nat) : w3.cell? ⟨w.heap.size, j, none⟩ = C[j]? := by
  rw [hB.cell (p := ⟨w.heap.size, j, none⟩) (Nat.lt_succ_self _), World.cell?_alloc_mark]
theorem boxf {w w3 : World} {C : Array Value} {t : TypeId} (hB : Below (w.heap.size + 1) (w.alloc (.cells C t (0, 0))) w3) (j : Nat) : w3.frozen? ⟨w.heap.size, j, none⟩ = false := by
  rw [hB.frozen (p := ⟨w.heap.size, j, none⟩) (Nat.lt_succ_self _), World.frozen?_alloc_mark]; simp
theorem boxs {w w3 : World} {o : Obj} (hB : Below (w.heap.size + 1) (w.alloc o) w3) : w.heap.size < w3.heap.size := by
  have := hB.size; rw [asz] at this; omega
/-- the same base, said of the world with the block -/
theorem bx {w w3 : World} {o : Obj} (hB : Below (w.alloc o).heap.size (w.alloc o) w3) : Below (w.heap.size + 1) (w.alloc o) w3 := by rw [asz] at hB; exact hB
/-- a block kept over a call: its cells, its marks, its number -/
theorem kc {a b : World} {q : Nat} {C : Array Value} (hb : Below a.heap.size a b) (l : q < a.heap.size) (k : ∀ j, a.cell? ⟨q, j, none⟩ = C[j]?) : ∀ j, b.cell? ⟨q, j, none⟩ = C[j]? :=
  fun j => (hb.cell (p := ⟨q, j, none⟩) l).trans (k j)
theorem kf {a b : World} {q : Nat} (hb : Below a.heap.size a b) (l : q < a.heap.size) (k : ∀ j, a.frozen? ⟨q, j, none⟩ = false) : ∀ j, b.frozen? ⟨q, j, none⟩ = false :=
  fun j => (hb.frozen (p := ⟨q, j, none⟩) l).trans (k j)
theorem kl {a b : World} {q : Nat} (hb : Below a.heap.size a b) (l : q < a.heap.size) : q < b.heap.size := Nat.lt_of_lt_of_le l hb.size
theorem kp {a b : World} {p : Addr} {v : Value} (hb : Below a.heap.size a b) (k : a.cell? p = some v) : b.cell? p = some v :=
  (hb.cell (World.block_lt_of_cell? a _ k)).trans k
end Go.Proofs.YtkanlfgomfibdaaDoor
