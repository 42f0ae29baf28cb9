/- Arguments that are logs: what they are. -/
import Derived.Test.YtlpefkbgdbiinaaJournalWalks
import Derived.Test.YtlpefkbgdbiinaaOpenS
import Derived.SizedLaws
set_option linter.unusedVariables false
namespace Go.Proofs.Ytlpefkbgdbiinaa
open Go.ChangeShapes Go.WideShapes Go.ChangeAt Go.RowKit Go.Joins Go.Deep
theorem openLogZ {H : Type} {enc : TypeId × Value → H} {W : World} {b0 : Nat} {v : Value} {d : DataW H} {p : List MemPlace} (hv : Value.okWide Try.prog W .any b0 34 v) (h : DataW.Trod enc Try.prog W 0 (fun _ => true) true 34 v d p) :
    ∃ x : Jr.Lg, v = Jr.aL x.1 x.2 ∧ True ∧ d = .agg [.lit (.string x.1.data.toList), .lit (.string x.2.data.toList)] := by
  obtain ⟨c0, c1, y0, y1, m, rfl, rfl, rfl, hy0, hy1⟩ := open_agg2 Try.underlying34 (by kernel_rfl) (by kernel_rfl) hv h
  obtain ⟨s0, e0, f0, _⟩ := DataW.trod_string Try.underlying9 hy0
  obtain ⟨s1, e1, f1, _⟩ := DataW.trod_string Try.underlying9 hy1
  simp at e0 e1
  subst e0 e1
  exact ⟨(s0, s1), rfl, trivial, by rw [f0, f1]⟩
theorem sizedLog {H : Type} {ts : List TypeId} {ds : List (DataW H)} (hs : (DataW.weightsEach Try.prog ts ds).all (· ≤ reachBytes) = true) {j : Nat} (ht : ts[j]? = some 34) {d : DataW H} (hd : ds[j]? = some d) {x : Jr.Lg}
    (z : d = .agg [.lit (.string x.1.data.toList), .lit (.string x.2.data.toList)]) : x.1.size ≤ 140737488351232 ∧ x.2.size ≤ 140737488351232 := by
  subst z
  have hr : reachBytes = 140737488351232 := rfl
  have h1 := List.all_eq_true.1 hs _ (DataW.weights_mem_each ht hd x.1.data.toList.length (by simp [DataW.weights, DataW.weightsEach, Try.underlying34]))
  have h2 := List.all_eq_true.1 hs _ (DataW.weights_mem_each ht hd x.2.data.toList.length (by simp [DataW.weights, DataW.weightsEach, Try.underlying34]))
  have e1 : x.1.data.toList.length = x.1.size := rfl
  have e2 : x.2.data.toList.length = x.2.size := rfl
  rw [e1, hr] at h1
  rw [e2, hr] at h2
  exact ⟨of_decide_eq_true h1, of_decide_eq_true h2⟩
end Go.Proofs.Ytlpefkbgdbiinaa
