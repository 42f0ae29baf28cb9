/- A block of the call's own, cell by cell: a variable, a result. -/
import Derived.Test.YtkanlfgomfibdaaDoorBase2
import Derived.Laws.AppendOwn
set_option linter.unusedSimpArgs false
set_option linter.unusedVariables false
namespace Go.Proofs.YtkanlfgomfibdaaDoor
open Go.RowKit
def Box (w : World) (b : Nat) (t : TypeId) (cs : List Value) : Prop := w.heap[b]? = some (.cells cs.toArray t (0, 0))
section
variable {w w' : World} {b : Nat} {t : TypeId} {cs : List Value}
theorem Box.lt (h : Box w b t cs) : b < w.heap.size := by
  rcases Nat.lt_or_ge b w.heap.size with h' | h'
  · exact h'
  · unfold Box at h; simp [Array.getElem?_eq_none h'] at h
theorem Box.cell (h : Box w b t cs) (j : Nat) : w.cell? ⟨b, j, none⟩ = cs[j]? := by unfold Box at h; simp [World.cell?, h]
theorem Box.froz (h : Box w b t cs) (j : Nat) : w.frozen? ⟨b, j, none⟩ = false := by unfold Box at h; simp [World.frozen?, h]
theorem Box.next (h : Box w b t cs) (hb : Below w.heap.size w w') : Box w' b t cs := (hb.block b h.lt).trans h
theorem Box.of_block (h : Box w b t cs) (hb : w'.heap[b]? = w.heap[b]?) : Box w' b t cs := hb.trans h
theorem Box.dr (h : Box w b t cs) (n : Nat) : Box (w.drewN n) b t cs := h
theorem Box.alloc (h : Box w b t cs) (o : Obj) : Box (w.alloc o) b t cs := h.next ((br w).alloc (Nat.le_refl _) o)
theorem Box.new (w : World) (t : TypeId) (cs : List Value) : Box (w.alloc (.cells cs.toArray t)) w.heap.size t cs := heap_alloc_new w _
theorem Box.set (h : Box w b t cs) (j : Nat) (v : Value) : Box (w.setCell ⟨b, j, none⟩ v) b t (cs.set j v) := by
  have hlt := h.lt
  unfold Box at h ⊢
  show (w.heap.modify b _)[b]? = _
  rw [Array.getElem?_eq_getElem hlt] at h
  rw [Array.getElem?_eq_getElem (by rw [Array.size_modify]; exact hlt), Array.getElem_modify_self]
  injection h with h
  rw [h]
  simp
theorem Box.other (h : Box w b t cs) (b' j : Nat) (v : Value) (hne : b ≠ b') : Box (w.setCell ⟨b', j, none⟩ v) b t cs := h.of_block (Below.heap_setCell _ _ _ _ hne)
end
end Go.Proofs.YtkanlfgomfibdaaDoor
