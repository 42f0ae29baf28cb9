/- An argument that is a term: what it is. -/
import Derived.Test.YtalmjeigfhjhfaaTermLaws
import Derived.ProofKit
import Derived.OpenShut
import Derived.Lib.SmallJoins
set_option linter.unusedVariables false
namespace Go.Proofs.Ytalmjeigfhjhfaa
open Go.ChangeShapes Go.WideShapes Go.ChangeAt Go.RowKit Go.Joins Go.Deep
def aTm (x : Int × Int) : Value := .agg #[.int .i64 x.1, .int .i64 x.2]
def WfT (x : Int × Int) : Prop := (Lit.int .i64 x.1).wf = true ∧ (Lit.int .i64 x.2).wf = true
theorem openTerm {H : Type} {enc : TypeId × Value → H} {W : World} {b0 : Nat} {v : Value} {d : DataW H} {p : List MemPlace} (hv : Value.okWide Try.prog W .any b0 39 v) (h : DataW.Trod enc Try.prog W 0 (fun _ => true) true 39 v d p) : ∃ x : Int × Int, v = aTm x ∧ WfT x := by
  obtain ⟨c0, c1, y0, y1, m, rfl, rfl, rfl, hy0, hy1⟩ := open_agg2 Try.underlying39 (by kernel_rfl) (by kernel_rfl) hv h
  obtain ⟨a, e0, _, wa⟩ := DataW.trod_int Try.underlying3 hy0
  obtain ⟨b, e1, _, wb⟩ := DataW.trod_int Try.underlying3 hy1
  simp at e0 e1
  subst e0 e1
  exact ⟨(a, b), rfl, wa, wb⟩
namespace Dt
theorem rises_end (a b : Int) (x : Int × Int) (k j : Int) (w : World) (_ : (Lit.int .i64 a).wf = true) (_ : (Lit.int .i64 b).wf = true) (_ : WfT x) (_ : (Lit.int .i64 k).wf = true) (_ : (Lit.int .i64 j).wf = true) :
    Calls Try.prog 8 #[.int .i64 a, .int .i64 b, aTm x, .int .i64 k, .int .i64 j] w fun e w' => e = .returned (.bool true) ∧ Below w.heap.size w w' := rises_walk a b x.1 x.2 k j w
end Dt
end Go.Proofs.Ytalmjeigfhjhfaa
