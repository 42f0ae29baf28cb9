/- The walks of the laws on tags, said of the arguments as they come in. -/
import Derived.Test.YtpddfoifgieghaaOpenW
import Derived.Test.YtpddfoifgieghaaTagLaws2
namespace Go.Proofs.Ytpddfoifgieghaa
open Go.RowKit
namespace Tg
theorem apart_end (x y : S) (m : Int) (w : World) (_ : True) (_ : True) (hm : (Lit.int .u64 m).wf = true) : Calls Try.prog 10 #[aS x, aS y, .int .u64 m] w fun e w' => e = .returned (.bool true) ∧ Below w.heap.size w w' := by
  obtain ⟨z, rfl⟩ := word_of hm
  exact apart_walk x y z w
end Tg
end Go.Proofs.Ytpddfoifgieghaa
