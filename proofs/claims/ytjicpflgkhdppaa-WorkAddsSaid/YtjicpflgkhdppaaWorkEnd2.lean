/- Days of work: the statements without the document. -/
import Derived.Test.YtjicpflgkhdppaaWorkLawN
import Derived.Test.YtjicpflgkhdppaaWorkLawC
import Derived.Test.YtjicpflgkhdppaaWorkLawA
import Derived.Test.YtjicpflgkhdppaaWorkLawR
import Derived.Test.YtjicpflgkhdppaaOpenK
set_option linter.unusedSimpArgs false
set_option linter.unusedVariables false
namespace Go.Proofs.Ytjicpflgkhdppaa
open Go.RowKit
namespace Wk
theorem next_end (v : Value) (x : List Bool × Value × List Rl) (n k : Int) (w : World) (h : RdCal w v x) (_ : (Lit.int .i64 n).wf = true) (_ : (Lit.int .i64 k).wf = true) : Calls Try.prog 7 #[v, .int .i64 n, .int .i64 k] w fun e w' => e = .returned (.bool true) ∧ Below w.heap.size w w' := by
  obtain ⟨rfl, h2, h3⟩ := h
  exact next_walk x.1 h2 x.2.1 x.2.2 n k w h3
theorem adds_end (v : Value) (x : List Bool × Value × List Rl) (n a b : Int) (w : World) (h : RdCal w v x) (_ : (Lit.int .i64 n).wf = true) (_ : (Lit.int .i64 a).wf = true) (_ : (Lit.int .i64 b).wf = true) : Calls Try.prog 4 #[v, .int .i64 n, .int .i64 a, .int .i64 b] w fun e w' => e = .returned (.bool true) ∧ Below w.heap.size w w' := by
  obtain ⟨rfl, h2, h3⟩ := h
  exact adds_walk x.1 h2 x.2.1 x.2.2 n a b w h3
theorem counts_end (v : Value) (x : List Bool × Value × List Rl) (n a b : Int) (w : World) (h : RdCal w v x) (_ : (Lit.int .i64 n).wf = true) (_ : (Lit.int .i64 a).wf = true) (_ : (Lit.int .i64 b).wf = true) : Calls Try.prog 5 #[v, .int .i64 n, .int .i64 a, .int .i64 b] w fun e w' => e = .returned (.bool true) ∧ Below w.heap.size w w' := by
  obtain ⟨rfl, h2, h3⟩ := h
  exact counts_walk x.1 h2 x.2.1 x.2.2 n a b w h3
theorem rests_end (v : Value) (x : List Bool × Value × List Rl) (n : Int) (w : World) (h : RdCal w v x) (_ : (Lit.int .i64 n).wf = true) : Calls Try.prog 8 #[v, .int .i64 n] w fun e w' => e = .returned (.bool true) ∧ Below w.heap.size w w' := by
  obtain ⟨rfl, h2, h3⟩ := h
  exact rests_walk x.1 h2 x.2.1 x.2.2 n w h3
end Wk
end Go.Proofs.Ytjicpflgkhdppaa
