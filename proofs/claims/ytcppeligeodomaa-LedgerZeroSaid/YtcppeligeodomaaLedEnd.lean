/- Ledgers: the walks, as the statements want them. -/
import Derived.Test.YtcppeligeodomaaLedLaws
import Derived.Test.YtcppeligeodomaaOpenP
set_option linter.unusedVariables false
namespace Go.Proofs.Ytcppeligeodomaa
open Go.RowKit
namespace Ld
theorem zero_end (v : Value) (ps : List Po) (w : World) (h : RdL w v ps) : Calls Try.prog 10 #[v] w fun e w' => e = .returned (.bool true) ∧ Below w.heap.size w w' := zero_walk v ps w h
end Ld
end Go.Proofs.Ytcppeligeodomaa
