/- The walk of CoverRises, said of the arguments as they come in. -/
import Derived.Test.YtogohocokmhjcaaOpenO
import Derived.Test.YtogohocokmhjcaaCoverRises2
import Derived.Lib.SmallJoins
set_option linter.unusedVariables false
namespace Go.Proofs.Ytogohocokmhjcaa
open Go.ChangeShapes Go.WideShapes Go.ChangeAt Go.RowKit Go.Joins Go.Deep
def aO (x : Int × Int) : Value := .agg #[.int .i64 x.1, .int .i64 x.2]
def WfO (x : Int × Int) : Prop := (Lit.int .i64 x.1).wf = true ∧ (Lit.int .i64 x.2).wf = true
theorem openOffer {H : Type} {enc : TypeId × Value → H} {W : World} {b0 : Nat} {v : Value} {d : DataW H} {p : List MemPlace} (hv : Value.okWide Try.prog W .any b0 47 v) (h : DataW.Trod enc Try.prog W 0 (fun _ => true) true 47 v d p) : ∃ x : Int × Int, v = aO x ∧ WfO x := by
  obtain ⟨c0, c1, y0, y1, m, rfl, rfl, rfl, hy0, hy1⟩ := open_agg2 Try.underlying47 (by kernel_rfl) (by kernel_rfl) hv h
  obtain ⟨a, e0, _, wa⟩ := DataW.trod_int Try.underlying3 hy0
  obtain ⟨b, e1, _, wb⟩ := DataW.trod_int Try.underlying3 hy1
  simp at e0 e1
  subst e0 e1
  exact ⟨(a, b), rfl, wa, wb⟩
namespace Cv
theorem rises_end (v : Value) (xs : List Offer) (a b : Int) (x : Int × Int) (w : World) (h : Rd 2 eO w v xs) (_ : (Lit.int .i64 a).wf = true) (_ : (Lit.int .i64 b).wf = true) (hx : WfO x) :
    Calls Try.prog 12 #[v, .int .i64 a, .int .i64 b, aO x] w fun e w' => e = .returned (.bool true) ∧ Below w.heap.size w w' := rises_walk v xs a b x.1 x.2 w h hx.1 hx.2
end Cv
end Go.Proofs.Ytogohocokmhjcaa
