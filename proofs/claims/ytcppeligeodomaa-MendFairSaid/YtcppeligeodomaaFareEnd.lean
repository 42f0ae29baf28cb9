/- Fares: the walks, as the statements want them. -/
import Derived.Test.YtcppeligeodomaaFareLaws2
import Derived.Test.YtcppeligeodomaaOpenF
set_option linter.unusedVariables false
namespace Go.Proofs.Ytcppeligeodomaa
open Go.RowKit
namespace Fa
theorem tells_end (v : Value) (rs : List Rw) (x y pc way : Int) (w : World) (h : RdF w v rs) (_ : (Lit.int .i64 x).wf = true) (_ : (Lit.int .i64 y).wf = true) (_ : (Lit.int .i64 pc).wf = true) (_ : (Lit.int .i64 way).wf = true) : Calls Try.prog 3 #[v, .int .i64 x, .int .i64 y, .int .i64 pc, .int .i64 way] w fun e w' => e = .returned (.bool true) ∧ Below w.heap.size w w' := tells_walk v rs x y pc way w h
theorem mtells_end (v : Value) (rs : List Rw) (w : World) (h : RdF w v rs) : Calls Try.prog 4 #[v] w fun e w' => e = .returned (.bool true) ∧ Below w.heap.size w w' := mtells_walk v rs w h
theorem mfair_end (v : Value) (rs : List Rw) (w : World) (h : RdF w v rs) : Calls Try.prog 5 #[v] w fun e w' => e = .returned (.bool true) ∧ Below w.heap.size w w' := mfair_walk v rs w h
theorem great_end (v : Value) (rs : List Rw) (u : Value) (ts : List Rw) (w : World) (h : RdF w v rs) (h' : RdF w u ts) : Calls Try.prog 6 #[v, u] w fun e w' => e = .returned (.bool true) ∧ Below w.heap.size w w' := great_walk v u rs ts w h h'
theorem rises_end (v : Value) (rs : List Rw) (a b x y p q way : Int) (w : World) (h : RdF w v rs) (_ : (Lit.int .i64 a).wf = true) (_ : (Lit.int .i64 b).wf = true) (_ : (Lit.int .i64 x).wf = true) (_ : (Lit.int .i64 y).wf = true) (_ : (Lit.int .i64 p).wf = true) (_ : (Lit.int .i64 q).wf = true) (_ : (Lit.int .i64 way).wf = true) : Calls Try.prog 7 #[v, .int .i64 a, .int .i64 b, .int .i64 x, .int .i64 y, .int .i64 p, .int .i64 q, .int .i64 way] w fun e w' => e = .returned (.bool true) ∧ Below w.heap.size w w' := rises_walk v rs a b x y p q way w h
end Fa
end Go.Proofs.Ytcppeligeodomaa
