/- Passes: the statement RenewTells. -/
import Derived.Test.YtdacnefklcmckaaPassLawR
import Derived.Test.YtdacnefklcmckaaOpenV
set_option linter.unusedSimpArgs false
set_option linter.unusedVariables false
namespace Go.Proofs.Ytdacnefklcmckaa
open Go.RowKit
namespace Pa
theorem renew_end (v : Value) (x : Ps × Value × List Sn.Sp) (n : Int) (y : Int × Int) (w : World) (h : RdPass w v x) (_ : (Lit.int .i64 n).wf = true) (_ : WfT y) :
    Calls Try.prog 4 #[v, .int .i64 n, aTm y] w fun e w' => e = .returned (.bool true) ∧ Below w.heap.size w w' := by
  obtain ⟨rfl, h2⟩ := h
  exact renew_walk x.1 x.2.1 x.2.2 n y.1 y.2 w h2
end Pa
end Go.Proofs.Ytdacnefklcmckaa
