/- All that lay lies as it lay, but for some blocks. -/
import Derived.Test.YtblbhkcnmkcdfaaBase2
set_option linter.unusedSimpArgs false
set_option linter.unusedVariables false
namespace Go.Proofs.Ytblbhkcnmkcdfaa
open Go.RowKit
structure KeptB (bs : List Nat) (X Y : World) : Prop where
  os : Y.os = X.os
  tape : Y.tape = X.tape
  output : Y.output = X.output
  size : X.heap.size ≤ Y.heap.size
  block : ∀ k, k < X.heap.size → k ∉ bs → Y.heap[k]? = X.heap[k]?
section
variable {bs cs : List Nat} {X Y Z : World}
theorem KeptB.refl (bs : List Nat) (X : World) : KeptB bs X X := ⟨rfl, rfl, rfl, Nat.le_refl _, fun _ _ _ => rfl⟩
theorem KeptB.trans (h : KeptB bs X Y) (k : KeptB cs Y Z) (hc : ∀ b ∈ cs, b ∈ bs ∨ X.heap.size ≤ b) : KeptB bs X Z :=
  ⟨k.os.trans h.os, k.tape.trans h.tape, k.output.trans h.output, Nat.le_trans h.size k.size, fun i hi hb => (k.block i (Nat.lt_of_lt_of_le hi h.size) (fun hm => (hc i hm).elim hb (fun h2 => by omega))).trans (h.block i hi hb)⟩
theorem KeptB.mono (h : KeptB bs X Y) (hc : ∀ b ∈ bs, b ∈ cs) : KeptB cs X Y := ⟨h.os, h.tape, h.output, h.size, fun k hk hb => h.block k hk (fun hm => hb (hc k hm))⟩
theorem KeptB.alloc (h : KeptB bs X Y) (o : Obj) : KeptB bs X (Y.alloc o) :=
  ⟨h.os, h.tape, h.output, by rw [World.size_alloc]; exact Nat.le_succ_of_le h.size, fun k hk hb => (Below.heap_alloc Y o k (Nat.lt_of_lt_of_le hk h.size)).trans (h.block k hk hb)⟩
theorem KeptB.set (h : KeptB bs X Y) (b j : Nat) (v : Value) (hb : b ∈ bs ∨ X.heap.size ≤ b) : KeptB bs X (Y.setCell ⟨b, j, none⟩ v) :=
  ⟨h.os, h.tape, h.output, by rw [World.size_setCell]; exact h.size, fun k hk hk2 => (Below.heap_setCell _ _ _ _ (fun e => by subst e; exact hb.elim hk2 (fun h2 => by omega))).trans (h.block k hk hk2)⟩
theorem KeptB.drewN (h : KeptB bs X Y) (n : Nat) : KeptB bs X (Y.drewN n) := ⟨h.os, h.tape, h.output, h.size, h.block⟩
theorem KeptB.of_below (h : Below X.heap.size X Y) : KeptB [] X Y := ⟨h.os, h.tape, h.output, h.size, fun k hk _ => h.block k hk⟩
theorem KeptB.below (h : KeptB bs X Y) {z : Nat} (hz : z ≤ X.heap.size) (hb : ∀ b ∈ bs, z ≤ b) : Below z X Y :=
  ⟨h.os, h.tape, h.output, h.size, fun k hk => h.block k (by omega) (fun hm => by have := hb k hm; omega)⟩
theorem KeptB.cell (h : KeptB bs X Y) {p : Addr} (hp : p.block < X.heap.size) (hn : p.block ∉ bs) : Y.cell? p = X.cell? p := World.cell?_of_block (w := X) (h.block p.block hp hn)
theorem KeptB.frozen (h : KeptB bs X Y) {p : Addr} (hp : p.block < X.heap.size) (hn : p.block ∉ bs) : Y.frozen? p = X.frozen? p := World.frozen?_of_block (w := X) (h.block p.block hp hn)
theorem KeptB.keep (h : KeptB bs X Y) {p : Addr} {v : Value} (k : X.cell? p = some v) (hn : p.block ∉ bs) : Y.cell? p = some v := (h.cell (World.block_lt_of_cell? X _ k) hn).trans k
end
end Go.Proofs.Ytblbhkcnmkcdfaa
