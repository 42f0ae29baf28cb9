/- Days of work: the statements that hold the code against the document. -/
import Derived.Test.YtjicpflgkhdppaaWorkTells
import Derived.Test.YtjicpflgkhdppaaOpenK
set_option linter.unusedSimpArgs false
set_option linter.unusedVariables false
namespace Go.Proofs.Ytjicpflgkhdppaa
open Go.RowKit
namespace Wk
theorem holTells_end (v : Value) (x : List Bool × Value × List Rl) (y : Int) (w : World) (h : RdCal w v x) (_ : (Lit.int .i64 y).wf = true) : Calls Try.prog 3 #[v, .int .i64 y] w fun e w' => e = .returned (.bool true) ∧ Below w.heap.size w w' := by
  obtain ⟨rfl, h2, h3⟩ := h
  exact holTells_walk x.1 h2 x.2.1 x.2.2 y w h3
theorem tells_end (v : Value) (x : List Bool × Value × List Rl) (n m t : Int) (w : World) (h : RdCal w v x) (_ : (Lit.int .i64 n).wf = true) (_ : (Lit.int .i64 m).wf = true) (_ : (Lit.int .i64 t).wf = true) : Calls Try.prog 6 #[v, .int .i64 n, .int .i64 m, .int .i64 t] w fun e w' => e = .returned (.bool true) ∧ Below w.heap.size w w' := by
  obtain ⟨rfl, h2, h3⟩ := h
  exact tells_walk x.1 h2 x.2.1 x.2.2 n m t w h3
end Wk
end Go.Proofs.Ytjicpflgkhdppaa
