/- Sets of days: SpansHas, SpansBoole and SpansSize as the statements want them. -/
import Derived.Test.YtncpgfmamhjekaaSpansLaws2
import Derived.Test.YtncpgfmamhjekaaOpenN
set_option linter.unusedSimpArgs false
set_option linter.unusedVariables false
namespace Go.Proofs.Ytncpgfmamhjekaa
open Go.RowKit
namespace Sn
theorem hasL_end (va : Value) (a : List Sp) (vb : Value) (b : List Sp) (n : Int) (w : World) (ha : RdE elS w va a) (hb : RdE elS w vb b) (_ : (Lit.int .i64 n).wf = true) : Calls Try.prog 5 #[va, vb, .int .i64 n] w fun e w' => e = .returned (.bool true) ∧ Below w.heap.size w w' := hasL_walk va vb a b n w ha hb
theorem boole_end (va : Value) (a : List Sp) (vb : Value) (b : List Sp) (vc : Value) (c : List Sp) (w : World) (ha : RdE elS w va a) (hb : RdE elS w vb b) (hc : RdE elS w vc c) : Calls Try.prog 7 #[va, vb, vc] w fun e w' => e = .returned (.bool true) ∧ Below w.heap.size w w' := boole_walk va vb vc a b c w ha hb hc
theorem size_end (va : Value) (a : List Sp) (vb : Value) (b : List Sp) (w : World) (ha : RdE elS w va a) (hb : RdE elS w vb b) : Calls Try.prog 8 #[va, vb] w fun e w' => e = .returned (.bool true) ∧ Below w.heap.size w w' := size_walk va vb a b w ha hb
end Sn
end Go.Proofs.Ytncpgfmamhjekaa
