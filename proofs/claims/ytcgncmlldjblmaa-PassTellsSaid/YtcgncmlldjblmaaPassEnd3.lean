/- Passes: the statement PassTells. -/
import Derived.Test.YtcgncmlldjblmaaPassLawT
import Derived.Test.YtcgncmlldjblmaaOpenV
set_option linter.unusedSimpArgs false
set_option linter.unusedVariables false
namespace Go.Proofs.Ytcgncmlldjblmaa
open Go.RowKit
namespace Pa
theorem tells_end (v : Value) (x : Ps × Value × List Sn.Sp) (n z : Int) (y : Int × Int) (w : World) (h : RdPass w v x) (_ : (Lit.int .i64 n).wf = true) (_ : (Lit.int .i64 z).wf = true) (_ : WfT y) :
    Calls Try.prog 3 #[v, .int .i64 n, .int .i64 z, aTm y] w fun e w' => e = .returned (.bool true) ∧ Below w.heap.size w w' := by
  obtain ⟨rfl, h2⟩ := h
  exact tells_walk x.1 x.2.1 x.2.2 n z y.1 y.2 w h2
end Pa
end Go.Proofs.Ytcgncmlldjblmaa
