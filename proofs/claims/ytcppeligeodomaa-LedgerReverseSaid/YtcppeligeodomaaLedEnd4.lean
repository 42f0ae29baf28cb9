/- Ledgers: the walk of LedgerReverse, as the statement wants it. -/
import Derived.Test.YtcppeligeodomaaLedLaws4
set_option linter.unusedVariables false
namespace Go.Proofs.Ytcppeligeodomaa
open Go.RowKit
namespace Ld
theorem reverse_end (v : Value) (ps : List Po) (id nw o ac : Int) (w : World) (h : RdL w v ps) (_ : (Lit.int .i64 id).wf = true) (_ : (Lit.int .i64 nw).wf = true) (_ : (Lit.int .i64 o).wf = true) (_ : (Lit.int .i64 ac).wf = true) : Calls Try.prog 13 #[v, .int .i64 id, .int .i64 nw, .int .i64 o, .int .i64 ac] w fun e w' => e = .returned (.bool true) ∧ Below w.heap.size w w' := reverse_walk v ps id nw o ac w h
end Ld
end Go.Proofs.Ytcppeligeodomaa
