/- Passes: the statements CutHas, CutBack, RenewJoins. -/
import Derived.Test.YtcgncmlldjblmaaPassLawC
import Derived.Test.YtcgncmlldjblmaaPassLawB
import Derived.Test.YtcgncmlldjblmaaPassLawJ
import Derived.Test.YtcgncmlldjblmaaOpenV
set_option linter.unusedSimpArgs false
set_option linter.unusedVariables false
namespace Go.Proofs.Ytcgncmlldjblmaa
open Go.RowKit
namespace Pa
theorem cuthas_end (v : Value) (x : Ps × Value × List Sn.Sp) (n k z : Int) (w : World) (h : RdPass w v x) (_ : (Lit.int .i64 n).wf = true) (_ : (Lit.int .i64 k).wf = true) (_ : (Lit.int .i64 z).wf = true) :
    Calls Try.prog 6 #[v, .int .i64 n, .int .i64 k, .int .i64 z] w fun e w' => e = .returned (.bool true) ∧ Below w.heap.size w w' := by
  obtain ⟨rfl, h2⟩ := h
  exact cuthas_walk x.1 x.2.1 x.2.2 n k z w h2
theorem joins_end (v : Value) (x : Ps × Value × List Sn.Sp) (n : Int) (y : Int × Int) (k z : Int) (w : World) (h : RdPass w v x) (_ : (Lit.int .i64 n).wf = true) (_ : WfT y) (_ : (Lit.int .i64 k).wf = true) (_ : (Lit.int .i64 z).wf = true) :
    Calls Try.prog 5 #[v, .int .i64 n, aTm y, .int .i64 k, .int .i64 z] w fun e w' => e = .returned (.bool true) ∧ Below w.heap.size w w' := by
  obtain ⟨rfl, h2⟩ := h
  exact joins_walk x.1 x.2.1 x.2.2 n y.1 y.2 k z w h2
theorem back_end (v : Value) (x : Ps × Value × List Sn.Sp) (n : Int) (y : Int × Int) (w : World) (h : RdPass w v x) (_ : (Lit.int .i64 n).wf = true) (_ : WfT y) :
    Calls Try.prog 7 #[v, .int .i64 n, aTm y] w fun e w' => e = .returned (.bool true) ∧ Below w.heap.size w w' := by
  obtain ⟨rfl, h2⟩ := h
  exact back_walk x.1 x.2.1 x.2.2 n y.1 y.2 w h2
end Pa
end Go.Proofs.Ytcgncmlldjblmaa
