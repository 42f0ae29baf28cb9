/- Ledgers: the walks, as the statements want them: order, once. -/
import Derived.Test.YtcppeligeodomaaLedLaws3
set_option linter.unusedVariables false
namespace Go.Proofs.Ytcppeligeodomaa
open Go.RowKit
namespace Ld
theorem order_end (v : Value) (ps : List Po) (ac : Int) (w : World) (h : RdL w v ps) (_ : (Lit.int .i64 ac).wf = true) : Calls Try.prog 12 #[v, .int .i64 ac] w fun e w' => e = .returned (.bool true) ∧ Below w.heap.size w w' := order_walk v ps ac w h
theorem once_end (v : Value) (ps : List Po) (u : Value) (p : Po) (ac : Int) (w : World) (h : RdL w v ps) (hp : RdPo w u p) (_ : (Lit.int .i64 ac).wf = true) : Calls Try.prog 11 #[v, u, .int .i64 ac] w fun e w' => e = .returned (.bool true) ∧ Below w.heap.size w w' := by
  obtain ⟨rfl, hp⟩ := hp
  exact once_walk v ps p.id p.a p.cap p.ls ac w h hp
end Ld
end Go.Proofs.Ytcppeligeodomaa
