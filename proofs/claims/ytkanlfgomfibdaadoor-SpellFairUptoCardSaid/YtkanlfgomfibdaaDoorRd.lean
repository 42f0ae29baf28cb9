/- A slice value that reads as a list of plain things (each of 'k' cells): nil, empty and other slices alike. -/
import Derived.Test.YtkanlfgomfibdaaDoorBase
import Derived.Laws.OwnMore
import Derived.Laws.AppendOwn
set_option linter.unusedSimpArgs false
set_option linter.unusedVariables false
namespace Go.Proofs.YtkanlfgomfibdaaDoor
open Go.RowKit

def Rd {α : Type} (k : Nat) (enc : α → List Value) (w : World) (v : Value) (xs : List α) : Prop :=
  ∃ (a : Option Addr) (cap : Nat), v = .slice a xs.length cap ∧ xs.length ≤ cap ∧ cap ≤ maxLen ∧
    (0 < xs.length → ∃ b off, a = some ⟨b, off, none⟩ ∧ b < w.heap.size ∧
      ∀ (i : Nat) (h : i < xs.length) (j : Nat) (u : Value), (enc xs[i])[j]? = some u → w.cell? ⟨b, off + (i * k + j), none⟩ = some u)

section
variable {α : Type} {k : Nat} {enc : α → List Value} {w w' : World} {v : Value} {xs : List α}
theorem Rd.below (h : Rd k enc w v xs) (hb : Below w.heap.size w w') : Rd k enc w' v xs := by
  obtain ⟨a, cap, rfl, h1, h2, h3⟩ := h
  refine ⟨a, cap, rfl, h1, h2, fun hn => ?_⟩
  obtain ⟨b, off, rfl, hlt, hc⟩ := h3 hn
  exact ⟨b, off, rfl, Nat.lt_of_lt_of_le hlt hb.size, fun i hi j u hu => (hb.cell (p := ⟨b, off + (i * k + j), none⟩) hlt).trans (hc i hi j u hu)⟩
theorem Rd.len_le (h : Rd k enc w v xs) : xs.length ≤ 9223372036854775807 := by
  obtain ⟨_, cap, _, h1, h2, _⟩ := h; unfold maxLen at h2; omega
theorem Rd.nil (w : World) : Rd k enc w (.slice none 0 0) ([] : List α) := ⟨none, 0, rfl, Nat.le_refl _, by unfold maxLen; omega, fun h => absurd h (by simp)⟩

/-- what the call has built reads as a list -/
theorem Rd.of_own {base e n : Nat} {cs : List Value} (h : w.ownsRow base e k v n cs) (hn : xs.length = n)
    (hc : ∀ (i : Nat) (h : i < xs.length) (j : Nat) (u : Value), (enc xs[i])[j]? = some u → j < k ∧ cs[i * k + j]? = some u) : Rd k enc w v xs := by
  subst hn
  obtain ⟨hl, h | ⟨g, cap, cur, rfl, hg, hcell, h1, h2, h3, h4⟩⟩ := h
  · obtain ⟨rfl, h0⟩ := h
    refine ⟨none, 0, by rw [h0], by omega, by unfold maxLen; omega, fun hn => by omega⟩
  · refine ⟨some ⟨g, 0, none⟩, cap, rfl, h1, h2, fun _ => ⟨g, 0, rfl, ?_, ?_⟩⟩
    · rcases Nat.lt_or_ge g w.heap.size with hlt | hge
      · exact hlt
      · rw [Array.getElem?_eq_none hge] at hcell; cases hcell
    · intro i hi j u hu
      obtain ⟨hj, hcs⟩ := hc i hi j u hu
      have hown : w.ownsRow base e k (.slice (some ⟨g, 0, none⟩) xs.length cap) xs.length cs := ⟨hl, .inr ⟨g, cap, cur, rfl, hg, hcell, h1, h2, h3, h4⟩⟩
      have hlt : i * k + j < xs.length * k := by
        have : (i + 1) * k ≤ xs.length * k := Nat.mul_le_mul_right k (by omega)
        rw [Nat.add_mul] at this; omega
      rw [Nat.zero_add, hown.cellAt _ hlt, hcs]
end

/-- the ints' own reading -/
def eI (n : Int) : List Value := [.int .i64 n]
theorem eI_at {w : World} {b off : Nat} {xs : List Int} (h : ∀ (i : Nat) (h : i < xs.length) (j : Nat) (u : Value), (eI xs[i])[j]? = some u → w.cell? ⟨b, off + (i * 1 + j), none⟩ = some u)
    (i : Nat) (hi : i < xs.length) : w.cell? ⟨b, off + i, none⟩ = some (.int .i64 xs[i]) := by
  have := h i hi 0 _ rfl
  simpa using this
/-- a literal of ints, just made -/
theorem Rd.lit (xs : List Int) (w : World) (t : TypeId) (fr : Nat × Nat) (h : xs.length ≤ maxLen) :
    Rd 1 eI (w.alloc (.cells (xs.map (Value.int .i64)).toArray t fr)) (.slice (some ⟨w.heap.size, 0, none⟩) xs.length xs.length) xs := by
  refine ⟨_, _, rfl, Nat.le_refl _, h, fun _ => ⟨w.heap.size, 0, rfl, by simp, ?_⟩⟩
  intro i hi j u hu
  rw [World.cell?_alloc_mark]
  unfold eI at hu
  match j with
  | 0 => simp at hu; subst hu; simp [hi]
  | j + 1 => simp at hu
end Go.Proofs.YtkanlfgomfibdaaDoor
