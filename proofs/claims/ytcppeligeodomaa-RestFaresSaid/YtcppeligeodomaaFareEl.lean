/- Fares: rows as elements. -/
import Derived.Test.YtcppeligeodomaaFarePlain
import Derived.Test.YtcppeligeodomaaEl2
import Derived.Test.YtcppeligeodomaaBox
set_option linter.unusedVariables false
namespace Go.Proofs.Ytcppeligeodomaa
open Go.RowKit
namespace Fa
@[reducible] def elI : El Int where
  k := 1
  enc := eI
  te := 3
  ts := 37
  bytes := 8
  zero := .int .i64 0
  k0 := by decide
  zs := rfl
  len := fun _ => rfl
  one := fun x y h => by simp [eI] at h; subst h; rfl
  info := by kernel_rfl
  und := Try.underlying37
/-- a row with its slice -/
structure Rw where
  a : Option Addr
  cap : Nat
  ls : List Int
abbrev Rw.v (r : Rw) : Value := .slice r.a r.ls.length r.cap
def eR (r : Rw) : List Value := [r.v]
@[reducible] def elR : El Rw where
  k := 1
  enc := eR
  te := 37
  ts := 23
  bytes := 24
  zero := .slice none 0 0
  k0 := by decide
  zs := rfl
  len := fun _ => rfl
  one := fun x y h => by simp [eR] at h; subst h; rfl
  info := by kernel_rfl
  und := Try.underlying23
theorem eR_at {w : World} {b off : Nat} {xs : List Rw} (h : ∀ (i : Nat) (h : i < xs.length) (j : Nat) (u : Value), (eR xs[i])[j]? = some u → w.cell? ⟨b, off + (i * 1 + j), none⟩ = some u)
    (i : Nat) (hi : i < xs.length) : w.cell? ⟨b, off + i, none⟩ = some xs[i].v := by
  have := h i hi 0 _ rfl
  simpa using this
abbrev RdI (w : World) (r : Rw) : Prop := RdE elI w r.v r.ls
/-- fares: their rows, and the prices of each -/
structure RdF (w : World) (v : Value) (rs : List Rw) : Prop where
  rd : RdE elR w v rs
  ln : ∀ r ∈ rs, RdI w r
theorem RdF.next {w w' : World} {v : Value} {rs : List Rw} (h : RdF w v rs) (hb : Below w.heap.size w w') : RdF w' v rs := ⟨h.rd.below hb, fun p hp => (h.ln p hp).below hb⟩
abbrev mat (rs : List Rw) : List (List Int) := rs.map Rw.ls
abbrev IntQ (n : Int) (w : World) (e : Ending) (w' : World) : Prop := e = .returned (.int .i64 n) ∧ Below w.heap.size w w'
end Fa
end Go.Proofs.Ytcppeligeodomaa
