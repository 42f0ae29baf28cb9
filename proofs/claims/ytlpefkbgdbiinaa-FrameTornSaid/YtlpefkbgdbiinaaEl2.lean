/- Slices as lists: the first ones, the last ones. -/
import Derived.Test.YtlpefkbgdbiinaaEl
set_option linter.unusedVariables false
namespace Go.Proofs.Ytlpefkbgdbiinaa
open Go.RowKit
theorem rd_pre {α : Type} {k : Nat} {enc : α → List Value} {w : World} {a : Option Addr} {n cap : Nat} {xs : List α} (h : Rd k enc w (.slice a n cap) xs) (m : Nat) (hm : m ≤ xs.length) : Rd k enc w (.slice a m cap) (xs.take m) := by
  obtain ⟨a', cap', e, h1, h2, h3⟩ := h
  injection e with e1 e2 e3
  subst e1 e2 e3
  have hl : (xs.take m).length = m := by simp; omega
  refine ⟨a, cap, by rw [hl], by omega, h2, fun hn => ?_⟩
  obtain ⟨b, off, e, hb, hc⟩ := h3 (by omega)
  refine ⟨b, off, e, hb, fun i hi j u hu => ?_⟩
  rw [List.getElem_take] at hu
  exact hc i (by omega) j u hu
end Go.Proofs.Ytlpefkbgdbiinaa
