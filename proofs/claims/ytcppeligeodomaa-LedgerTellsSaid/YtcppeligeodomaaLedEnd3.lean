/- Ledgers: the walk of LedgerTells, as the statement wants it. -/
import Derived.Test.YtcppeligeodomaaLedTells
set_option linter.unusedVariables false
namespace Go.Proofs.Ytcppeligeodomaa
open Go.RowKit
namespace Ld
theorem tells_end (v : Value) (ps : List Po) (u : Value) (p : Po) (ac i2 nw : Int) (w : World) (h : RdL w v ps) (hp : RdPo w u p) (_ : (Lit.int .i64 ac).wf = true) (_ : (Lit.int .i64 i2).wf = true) (_ : (Lit.int .i64 nw).wf = true) : Calls Try.prog 9 #[v, u, .int .i64 ac, .int .i64 i2, .int .i64 nw] w fun e w' => e = .returned (.bool true) ∧ Below w.heap.size w w' := by
  obtain ⟨rfl, hp⟩ := hp
  exact tells_walk v ps p.id p.a p.cap p.ls ac i2 nw w h hp
end Ld
end Go.Proofs.Ytcppeligeodomaa
