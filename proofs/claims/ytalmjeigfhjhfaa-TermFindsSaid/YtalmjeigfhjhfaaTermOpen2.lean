/- The walk of TermFinds, said of the arguments as they come in. -/
import Derived.Test.YtalmjeigfhjhfaaTermOpen
import Derived.Test.YtalmjeigfhjhfaaTermLaws2
set_option linter.unusedVariables false
namespace Go.Proofs.Ytalmjeigfhjhfaa
open Go.RowKit
namespace Dt
theorem finds_end (s : Int) (x : Int × Int) (n j : Int) (w : World) (_ : (Lit.int .i64 s).wf = true) (_ : WfT x) (_ : (Lit.int .i64 n).wf = true) (_ : (Lit.int .i64 j).wf = true) :
    Calls Try.prog 11 #[.int .i64 s, aTm x, .int .i64 n, .int .i64 j] w fun e w' => e = .returned (.bool true) ∧ Below w.heap.size w w' := finds_walk s x.1 x.2 n j w
end Dt
end Go.Proofs.Ytalmjeigfhjhfaa
