/- Lists of passes: the element type, each with its days. -/
import Derived.Test.YtdfdjampodkpgaaDoorJPass
set_option linter.unusedSimpArgs false
set_option linter.unusedVariables false
namespace Go.Proofs.YtdfdjampodkpgaaDoor
open Go.RowKit
namespace Pa
open Sn
/-- a pass with its days' slice -/
structure Px where
  p : Ps
  a : Option Addr
  cap : Nat
  l : List Sp
abbrev Px.v (x : Px) : Value := .slice x.a x.l.length x.cap
abbrev Px.pl (x : Px) : Ps × List Sp := (x.p, x.l)
abbrev aX (x : Px) : Value := aP x.p x.v
def eX (x : Px) : List Value := [.int .i64 x.p.id, .int .i64 x.p.born, .int .i64 x.p.a, .int .i64 x.p.b, .int .i64 x.p.ser, x.v]
@[reducible] def elX : El Px where
  k := 6
  enc := eX
  te := 25
  ts := 36
  bytes := 64
  zero := .agg #[.int .i64 0, .int .i64 0, .int .i64 0, .int .i64 0, .int .i64 0, .slice none 0 0]
  k0 := by decide
  zs := rfl
  len := fun _ => rfl
  one := fun x y h => by simp [eX] at h; rcases h with rfl | rfl | rfl | rfl | rfl | rfl <;> rfl
  info := by kernel_rfl
  und := Tryd.underlying36
theorem eX_at {w : World} {b off : Nat} {xs : List Px} (h : ∀ (i : Nat) (h : i < xs.length) (j : Nat) (u : Value), (eX xs[i])[j]? = some u → w.cell? ⟨b, off + (i * 6 + j), none⟩ = some u)
    (i : Nat) (hi : i < xs.length) : w.cell? ⟨b, off + i * 6, none⟩ = some (.int .i64 xs[i].p.id) ∧ w.cell? ⟨b, off + i * 6 + 1, none⟩ = some (.int .i64 xs[i].p.born) ∧ w.cell? ⟨b, off + i * 6 + 2, none⟩ = some (.int .i64 xs[i].p.a)
      ∧ w.cell? ⟨b, off + i * 6 + 3, none⟩ = some (.int .i64 xs[i].p.b) ∧ w.cell? ⟨b, off + i * 6 + 4, none⟩ = some (.int .i64 xs[i].p.ser) ∧ w.cell? ⟨b, off + i * 6 + 5, none⟩ = some xs[i].v :=
  ⟨h i hi 0 _ rfl, h i hi 1 _ rfl, h i hi 2 _ rfl, h i hi 3 _ rfl, h i hi 4 _ rfl, h i hi 5 _ rfl⟩
abbrev RdD (w : World) (x : Px) : Prop := RdE elS w x.v x.l
/-- a list of passes, and the days of each -/
structure RdX (w : World) (v : Value) (xs : List Px) : Prop where
  rd : RdE elX w v xs
  ln : ∀ x ∈ xs, RdD w x
theorem RdX.next {w w' : World} {v : Value} {xs : List Px} (h : RdX w v xs) (hb : Below w.heap.size w w') : RdX w' v xs := ⟨h.rd.below hb, fun x hx => (h.ln x hx).below hb⟩
theorem RdX.nil (w : World) : RdX w (.slice none 0 0) [] := ⟨Rd.nil w, by simp⟩
abbrev pls (xs : List Px) : List (Ps × List Sp) := xs.map Px.pl
end Pa
end Go.Proofs.YtdfdjampodkpgaaDoor
