/- Gate: two statements more, as they are lifted. -/
import Derived.Test.YtdfdjampodkpgaaDoorGateEnd
import Derived.Test.YtdfdjampodkpgaaDoorGateLaw2
import Derived.Test.YtdfdjampodkpgaaDoorGateLaw3
set_option linter.unusedSimpArgs false
set_option linter.unusedVariables false
namespace Go.Proofs.YtdfdjampodkpgaaDoor
open Go.RowKit
namespace Gt
open Sn Pa Rg Tg
theorem old_end (v : Value) (eps : List Rg.Ep) (u : Value) (x : Ps × Value × List Sp) (n z : Int) (w : World) (hv : Rd 3 Rg.eE w v eps) (hx : RdPass w u x) (_ : (Lit.int .i64 n).wf = true) (_ : (Lit.int .i64 z).wf = true) (hT : Sl.Tab w) :
    Calls Tryd.prog 8 #[v, u, .int .i64 n, .int .i64 z] w (BoolQ true w) := by
  obtain ⟨p, d, l⟩ := x; obtain ⟨rfl, hd⟩ := hx
  exact admitOld v eps p d l n z w hv hd hT
theorem latest_end (v : Value) (eps : List Rg.Ep) (u : Value) (xs : List Px) (i n z : Int) (k : W64 × W64) (w : World) (hv : Rd 3 Rg.eE w v eps) (hx : RdX w u xs) (_ : (Lit.int .i64 i).wf = true) (_ : (Lit.int .i64 n).wf = true) (_ : (Lit.int .i64 z).wf = true) (_ : True) (hT : Sl.Tab w) :
    Calls Tryd.prog 7 #[v, u, .int .i64 i, .int .i64 n, .int .i64 z, aK k.1 k.2] w (BoolQ true w) := admitLatest v u eps xs i n z k.1 k.2 w hv hx hT
end Gt
end Go.Proofs.YtdfdjampodkpgaaDoor
