/- The walks of the laws on dates and weeks, said of the arguments as they come in. -/
import Derived.Test.YtipgnmecahbddaaOpenD
import Derived.Test.YtipgnmecahbddaaDateLaws3
import Derived.Test.YtipgnmecahbddaaDateLaws4
namespace Go.Proofs.Ytipgnmecahbddaa
open Go.RowKit
namespace Dt
theorem back_end (x : Int × Int × Int) (n : Int) (w : World) (_ : Wf3 x) (_ : (Lit.int .i64 n).wf = true) : Calls Try.prog 6 #[a3 x, .int .i64 n] w fun e w' => e = .returned (.bool true) ∧ Below w.heap.size w w' := back_walk x.1 x.2.1 x.2.2 n w
theorem cycle_end (x : Int × Int × Int) (w : World) (_ : Wf3 x) : Calls Try.prog 8 #[a3 x] w fun e w' => e = .returned (.bool true) ∧ Below w.heap.size w w' := cycle_walk x.1 x.2.1 x.2.2 w
theorem weekTells_end (n : Int) (x : Int × Int × Int) (w : World) (_ : (Lit.int .i64 n).wf = true) (_ : Wf3 x) : Calls Try.prog 9 #[.int .i64 n, a3 x] w fun e w' => e = .returned (.bool true) ∧ Below w.heap.size w w' := weekTells_walk n x.1 x.2.1 x.2.2 w
theorem weekBack_end (n : Int) (x : Int × Int × Int) (w : World) (_ : (Lit.int .i64 n).wf = true) (_ : Wf3 x) : Calls Try.prog 10 #[.int .i64 n, a3 x] w fun e w' => e = .returned (.bool true) ∧ Below w.heap.size w w' := weekBack_walk n x.1 x.2.1 x.2.2 w
end Dt
end Go.Proofs.Ytipgnmecahbddaa
