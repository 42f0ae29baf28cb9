/- The walks of the laws on dates, said of the arguments as they come in. -/
import Derived.Test.YtipgnmecahbddaaOpenD
import Derived.Test.YtipgnmecahbddaaDateLaws2
namespace Go.Proofs.Ytipgnmecahbddaa
open Go.RowKit
namespace Dt
theorem tells_end (x : Int × Int × Int) (n : Int) (w : World) (_ : Wf3 x) (_ : (Lit.int .i64 n).wf = true) : Calls Try.prog 5 #[a3 x, .int .i64 n] w fun e w' => e = .returned (.bool true) ∧ Below w.heap.size w w' := tells_walk x.1 x.2.1 x.2.2 n w
end Dt
end Go.Proofs.Ytipgnmecahbddaa
