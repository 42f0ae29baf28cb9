/- Ints as an element type. -/
import Derived.Test.YtkanlfgomfibdaaDoorEl2
set_option linter.unusedSimpArgs false
set_option linter.unusedVariables false
namespace Go.Proofs.YtkanlfgomfibdaaDoor
open Go.RowKit
@[reducible] def elZ : El Int where
  k := 1
  enc := eI
  te := 3
  ts := 30
  bytes := 8
  zero := .int .i64 0
  k0 := by decide
  zs := rfl
  len := fun _ => rfl
  one := fun x y h => by simp [eI] at h; subst h; rfl
  info := by kernel_rfl
  und := Tryd.underlying30
theorem own_shapeZ {α : Type} {E : El α} {w : World} {base : Nat} {v : Value} {xs : List α} (h : ROwn E w base v xs) : ∃ a c, v = .slice a xs.length c := by
  obtain ⟨_, h | ⟨g, cap, cur, h1, _⟩⟩ := h
  · exact ⟨none, 0, by rw [h.1, h.2]⟩
  · exact ⟨_, _, h1⟩
/-- a slice as a result, and an error -/
abbrev PairZ (xs : List Int) (er : Int) (w : World) (e : Ending) (w' : World) : Prop := ∃ v, e = .returned (.tuple #[v, .int .i64 er]) ∧ ROwn elZ w' w.heap.size v xs ∧ Below w.heap.size w w'
end Go.Proofs.YtkanlfgomfibdaaDoor
