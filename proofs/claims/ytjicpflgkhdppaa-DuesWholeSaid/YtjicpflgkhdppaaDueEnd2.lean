/- What is due: the statement DuesWhole. -/
import Derived.Test.YtjicpflgkhdppaaDueWhole
import Derived.Test.YtjicpflgkhdppaaOpenU
set_option linter.unusedSimpArgs false
set_option linter.unusedVariables false
namespace Go.Proofs.Ytjicpflgkhdppaa
open Go.RowKit
namespace Du
open Wk
theorem whole_end (v : Value) (x : List Bool × Value × List Rl) (s : Int) (y : Int × Int) (t m : Int) (w : World) (h : RdCal w v x) (_ : (Lit.int .i64 s).wf = true) (_ : WfT y) (_ : (Lit.int .i64 t).wf = true) (_ : (Lit.int .i64 m).wf = true) :
    Calls Try.prog 11 #[v, .int .i64 s, aTm y, .int .i64 t, .int .i64 m] w fun e w' => e = .returned (.bool true) ∧ Below w.heap.size w w' := by
  obtain ⟨rfl, h2, h3⟩ := h
  exact whole_walk x.1 h2 x.2.1 x.2.2 s y.1 y.2 t m w h3
end Du
end Go.Proofs.Ytjicpflgkhdppaa
