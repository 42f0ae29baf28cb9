/- The walk of TagTells, said of the arguments as they come in. -/
import Derived.Test.YtpddfoifgieghaaOpenW
import Derived.Test.YtpddfoifgieghaaTagTells
namespace Go.Proofs.Ytpddfoifgieghaa
open Go.RowKit
namespace Tg
theorem tells_end (x : S) (m : Int) (k : W64 × W64) (s : ByteArray) (w : World) (_ : True) (hm : (Lit.int .u64 m).wf = true) (_ : True) (hs : s.size ≤ 140737488351232) : Calls Try.prog 9 #[aS x, .int .u64 m, aK k.1 k.2, .string s] w fun e w' => e = .returned (.bool true) ∧ Below w.heap.size w w' := by
  obtain ⟨z, rfl⟩ := word_of hm
  exact tells_walk x z k.1 k.2 s w hs
end Tg
end Go.Proofs.Ytpddfoifgieghaa
