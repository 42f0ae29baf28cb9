/- What differs before a word is taken differs behind it. -/
import Derived.Test.YtmeoeihfgmmgmaaTagLaws
import Derived.Deep.CutRange
import Derived.Deep.RegionHeld3
set_option linter.unusedVariables false
namespace Go.Proofs.Ytmeoeihfgmmgmaa
open Go.RowKit
namespace Tg
end Tg
end Go.Proofs.Ytmeoeihfgmmgmaa
