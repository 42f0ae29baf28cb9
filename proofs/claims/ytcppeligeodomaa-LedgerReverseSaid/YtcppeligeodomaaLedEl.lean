/- Ledgers: lines and postings as element types. -/
import Derived.Test.YtcppeligeodomaaLedPlain
import Derived.Test.YtcppeligeodomaaEl2
import Derived.Test.YtcppeligeodomaaBox
set_option linter.unusedVariables false
namespace Go.Proofs.Ytcppeligeodomaa
open Go.RowKit
namespace Ld
def eN (l : Ln) : List Value := [.int .i64 l.1, .int .i64 l.2]
@[reducible] def elN : El Ln where
  k := 2
  enc := eN
  te := 62
  ts := 40
  bytes := 16
  zero := .agg #[.int .i64 0, .int .i64 0]
  k0 := by decide
  zs := rfl
  len := fun _ => rfl
  one := fun x y h => by simp [eN] at h; rcases h with rfl | rfl <;> rfl
  info := by kernel_rfl
  und := Try.underlying40
/-- a posting with its lines' slice -/
structure Po where
  id : Int
  a : Option Addr
  cap : Nat
  ls : List Ln
abbrev Po.v (p : Po) : Value := .slice p.a p.ls.length p.cap
abbrev Po.pg (p : Po) : Pg := (p.id, p.ls)
abbrev aP (p : Po) : Value := .agg #[.int .i64 p.id, p.v]
def eP (p : Po) : List Value := [.int .i64 p.id, p.v]
@[reducible] def elP : El Po where
  k := 2
  enc := eP
  te := 42
  ts := 39
  bytes := 32
  zero := .agg #[.int .i64 0, .slice none 0 0]
  k0 := by decide
  zs := rfl
  len := fun _ => rfl
  one := fun x y h => by simp [eP] at h; rcases h with rfl | rfl <;> rfl
  info := by kernel_rfl
  und := Try.underlying39
theorem eN_at {w : World} {b off : Nat} {xs : List Ln} (h : ∀ (i : Nat) (h : i < xs.length) (j : Nat) (u : Value), (eN xs[i])[j]? = some u → w.cell? ⟨b, off + (i * 2 + j), none⟩ = some u)
    (i : Nat) (hi : i < xs.length) : w.cell? ⟨b, off + i * 2, none⟩ = some (.int .i64 xs[i].1) ∧ w.cell? ⟨b, off + i * 2 + 1, none⟩ = some (.int .i64 xs[i].2) :=
  ⟨h i hi 0 _ rfl, h i hi 1 _ rfl⟩
theorem eP_at {w : World} {b off : Nat} {xs : List Po} (h : ∀ (i : Nat) (h : i < xs.length) (j : Nat) (u : Value), (eP xs[i])[j]? = some u → w.cell? ⟨b, off + (i * 2 + j), none⟩ = some u)
    (i : Nat) (hi : i < xs.length) : w.cell? ⟨b, off + i * 2, none⟩ = some (.int .i64 xs[i].id) ∧ w.cell? ⟨b, off + i * 2 + 1, none⟩ = some xs[i].v :=
  ⟨h i hi 0 _ rfl, h i hi 1 _ rfl⟩
abbrev RdN (w : World) (p : Po) : Prop := RdE elN w p.v p.ls
/-- a ledger: its postings, and the lines of each -/
structure RdL (w : World) (v : Value) (ps : List Po) : Prop where
  rd : RdE elP w v ps
  ln : ∀ p ∈ ps, RdN w p
theorem RdL.next {w w' : World} {v : Value} {ps : List Po} (h : RdL w v ps) (hb : Below w.heap.size w w') : RdL w' v ps := ⟨h.rd.below hb, fun p hp => (h.ln p hp).below hb⟩
abbrev pgs (ps : List Po) : List Pg := ps.map Po.pg
end Ld
end Go.Proofs.Ytcppeligeodomaa
