/- Slices of strings, of bytes, of ints, as element types. -/
import Derived.Test.YtlpefkbgdbiinaaEl
set_option linter.unusedVariables false
namespace Go.Proofs.Ytlpefkbgdbiinaa
open Go.RowKit
def eS (s : ByteArray) : List Value := [.string s]
@[reducible] def elS : El ByteArray where
  k := 1
  enc := eS
  te := 9
  ts := 22
  bytes := 16
  zero := .string ⟨#[]⟩
  k0 := by decide
  zs := rfl
  len := fun _ => rfl
  one := fun x y h => by simp [eS] at h; subst h; rfl
  info := by kernel_rfl
  und := Try.underlying22
def eB (b : UInt8) : List Value := [.int .u8 b.toNat]
@[reducible] def elB : El UInt8 where
  k := 1
  enc := eB
  te := 5
  ts := 48
  bytes := 1
  zero := .int .u8 0
  k0 := by decide
  zs := rfl
  len := fun _ => rfl
  one := fun x y h => by simp [eB] at h; subst h; rfl
  info := by kernel_rfl
  und := Try.underlying48
theorem eS_at {w : World} {b off : Nat} {xs : List ByteArray} (h : ∀ (i : Nat) (h : i < xs.length) (j : Nat) (u : Value), (eS xs[i])[j]? = some u → w.cell? ⟨b, off + (i * 1 + j), none⟩ = some u)
    (i : Nat) (hi : i < xs.length) : w.cell? ⟨b, off + i, none⟩ = some (.string xs[i]) := by
  have := h i hi 0 _ rfl
  simpa using this
end Go.Proofs.Ytlpefkbgdbiinaa
