/- Gate: the last statement, as it is lifted. -/
import Derived.Test.YtdfdjampodkpgaaDoorGateEnd
import Derived.Test.YtdfdjampodkpgaaDoorGateLaw4
set_option linter.unusedSimpArgs false
set_option linter.unusedVariables false
namespace Go.Proofs.YtdfdjampodkpgaaDoor
open Go.RowKit
namespace Gt
open Sn Pa
theorem only_end (v : Value) (eps : List Rg.Ep) (u : Value) (xs : List Px) (t : ByteArray) (n z : Int) (w : World) (hv : Rd 3 Rg.eE w v eps) (hx : RdX w u xs) (ht : t.size ≤ 1048576) (_ : (Lit.int .i64 n).wf = true) (_ : (Lit.int .i64 z).wf = true) (_ : t.size ≤ 1048576) (hT : Sl.Tab w) :
    Calls Tryd.prog 6 #[v, u, .string t, .int .i64 n, .int .i64 z] w (BoolQ true w) := admitOnly v u eps xs t n z (by omega) w hv hx hT
end Gt
end Go.Proofs.YtdfdjampodkpgaaDoor
