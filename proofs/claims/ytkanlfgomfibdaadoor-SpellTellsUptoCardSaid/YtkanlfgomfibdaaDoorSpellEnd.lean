/- Spelling: the statements, as they are lifted. -/
import Derived.Test.YtkanlfgomfibdaaDoorSpellLaws2
set_option linter.unusedSimpArgs false
set_option linter.unusedVariables false
namespace Go.Proofs.YtkanlfgomfibdaaDoor
open Go.RowKit
namespace Sl
theorem back_end (s : ByteArray) (w : World) (hs : s.size ≤ maxLen) (hT : Tab w) : Calls Tryd.prog 4 #[.string s] w (BoolQ true w) := back_walk s hs w hT
theorem tells_end (s t : ByteArray) (w : World) (hs : s.size ≤ 1048576) (ht : t.size ≤ 1048576) (_ : s.size + t.size ≤ 1048576) (hT : Tab w) : Calls Tryd.prog 3 #[.string s, .string t] w (BoolQ true w) := tells_walk s t (by omega) (by omega) w hT
theorem fair_end (t : ByteArray) (w : World) (ht : t.size ≤ 1048576) (_ : t.size ≤ 1048576) (hT : Tab w) : Calls Tryd.prog 5 #[.string t] w (BoolQ true w) := fair_walk t (by omega) w hT
theorem loose_end (t : ByteArray) (k : Int) (w : World) (ht : t.size ≤ 1048576) (_ : (Lit.int .i64 k).wf = true) (_ : t.size ≤ 1048576) (hT : Tab w) : Calls Tryd.prog 6 #[.string t, .int .i64 k] w (BoolQ true w) := loose_walk t k (by omega) w hT
end Sl
end Go.Proofs.YtkanlfgomfibdaaDoor
