/- What is due: the statements DuesTell and DuesPaid. -/
import Derived.Test.YtjicpflgkhdppaaDueLaws
import Derived.Test.YtjicpflgkhdppaaOpenU
set_option linter.unusedSimpArgs false
set_option linter.unusedVariables false
namespace Go.Proofs.Ytjicpflgkhdppaa
open Go.RowKit
namespace Du
open Wk
theorem tell_end (v : Value) (x : List Bool × Value × List Rl) (s : Int) (y : Int × Int) (t m : Int) (vl : Value) (l : List Due) (n : Int) (w : World) (h : RdCal w v x) (_ : (Lit.int .i64 s).wf = true) (_ : WfT y) (_ : (Lit.int .i64 t).wf = true) (_ : (Lit.int .i64 m).wf = true) (hl : RdE elU w vl l) (_ : (Lit.int .i64 n).wf = true) :
    Calls Try.prog 9 #[v, .int .i64 s, aTm y, .int .i64 t, .int .i64 m, vl, .int .i64 n] w fun e w' => e = .returned (.bool true) ∧ Below w.heap.size w w' := by
  obtain ⟨rfl, h2, h3⟩ := h
  exact tell_walk x.1 h2 x.2.1 x.2.2 s y.1 y.2 t m vl l n w h3 hl
theorem paid_end (vl : Value) (l : List Due) (n m : Int) (w : World) (hl : RdE elU w vl l) (_ : (Lit.int .i64 n).wf = true) (_ : (Lit.int .i64 m).wf = true) :
    Calls Try.prog 10 #[vl, .int .i64 n, .int .i64 m] w fun e w' => e = .returned (.bool true) ∧ Below w.heap.size w w' := paid_walk vl l n m w hl
end Du
end Go.Proofs.Ytjicpflgkhdppaa
