/- Sets of days: SpansTell and SpansBoth as the statements want them. -/
import Derived.Test.YtncpgfmamhjekaaSpansLaws
import Derived.Test.YtncpgfmamhjekaaOpenN
set_option linter.unusedSimpArgs false
set_option linter.unusedVariables false
namespace Go.Proofs.Ytncpgfmamhjekaa
open Go.RowKit
namespace Sn
theorem tell_end (v : Value) (l : List Sp) (n : Int) (w : World) (h : RdE elS w v l) (_ : (Lit.int .i64 n).wf = true) : Calls Try.prog 3 #[v, .int .i64 n] w fun e w' => e = .returned (.bool true) ∧ Below w.heap.size w w' := tell_walk v l n w h
theorem both_end (va : Value) (a : List Sp) (vb : Value) (b : List Sp) (w : World) (ha : RdE elS w va a) (hb : RdE elS w vb b) : Calls Try.prog 4 #[va, vb] w fun e w' => e = .returned (.bool true) ∧ Below w.heap.size w w' := both_walk va vb a b w ha hb
end Sn
end Go.Proofs.Ytncpgfmamhjekaa
