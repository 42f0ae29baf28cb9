/- Gate: the statements, as they are lifted. -/
import Derived.Test.YtdfdjampodkpgaaDoorGateLaw1
import Derived.Test.YtdfdjampodkpgaaDoorOpenX
import Derived.Test.YtdfdjampodkpgaaDoorJRingR
set_option linter.unusedSimpArgs false
set_option linter.unusedVariables false
namespace Go.Proofs.YtdfdjampodkpgaaDoor
open Go.RowKit
namespace Gt
open Sn Pa
theorem admit_end (v : Value) (eps : List Rg.Ep) (u : Value) (xs : List Px) (t : ByteArray) (n z : Int) (w : World) (hv : Rd 3 Rg.eE w v eps) (hx : RdX w u xs) (ht : t.size ≤ 1048576) (_ : (Lit.int .i64 n).wf = true) (_ : (Lit.int .i64 z).wf = true) (_ : t.size ≤ 1048576) (hT : Sl.Tab w) :
    Calls Tryd.prog 4 #[v, u, .string t, .int .i64 n, .int .i64 z] w (BoolQ true w) := admitTells v u eps xs t n z (by omega) w hv hx hT
theorem tells_end (v : Value) (eps : List Rg.Ep) (u : Value) (x : Ps × Value × List Sp) (t : ByteArray) (w : World) (hv : Rd 3 Rg.eE w v eps) (hx : RdPass w u x) (ht : t.size ≤ 1048576) (_ : t.size ≤ 1048576) (hT : Sl.Tab w) :
    Calls Tryd.prog 3 #[v, u, .string t] w (BoolQ true w) := by
  obtain ⟨p, d, l⟩ := x; obtain ⟨rfl, hd⟩ := hx
  exact tokenTells v eps p d l t (by omega) w hv hd hT
theorem back_end (v : Value) (eps : List Rg.Ep) (u : Value) (x : Ps × Value × List Sp) (w : World) (hv : Rd 3 Rg.eE w v eps) (hx : RdPass w u x) (hT : Sl.Tab w) :
    Calls Tryd.prog 5 #[v, u] w (BoolQ true w) := by
  obtain ⟨p, d, l⟩ := x; obtain ⟨rfl, hd⟩ := hx
  exact tokenBack v eps p d l w hv hd hT
end Gt
end Go.Proofs.YtdfdjampodkpgaaDoor
