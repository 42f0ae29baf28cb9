/- Arguments that are slices of ints: what they are. -/
import Derived.Test.YtblbhkcnmkcdfaaProg
import Derived.Test.YtblbhkcnmkcdfaaRd
import Derived.ProofKit
import Derived.OpenShut
import Derived.ChangeSlices
set_option linter.unusedSimpArgs false
set_option linter.unusedVariables false
namespace Go.Proofs.Ytblbhkcnmkcdfaa
open Go.ChangeShapes Go.WideShapes Go.ChangeAt Go.RowKit
theorem addr_of {W : World} {a : Addr} {v : Value} (h : W.cell? a = some v) : a = ⟨a.block, a.off, none⟩ := by
  obtain ⟨b, o, s⟩ := a
  cases s with
  | none => rfl
  | some s =>
    unfold World.cell? at h
    simp at h
    split at h <;> simp at h
theorem openInts {H : Type} {enc : TypeId × Value → H} {W : World} {b0 : Nat} {v : Value} {d : DataW H} {p : List MemPlace} (hv0 : Value.okWide Try.prog W .any b0 22 v) (h : DataW.Trod enc Try.prog W 0 (fun _ => true) true 22 v d p) : ∃ xs : List Int, Rd 1 eI W v xs := by
  obtain ⟨a0, len0, cap0, rfl⟩ := okWide_slice Try.underlying22 hv0
  obtain ⟨fuel, hf⟩ := h
  rcases open_ints (k := .i64) Try.underlying22 Try.underlying3 (by kernel_rfl) hf with ⟨h1, h2⟩ | ⟨a, len, cap, zs, h1, h2, h3, h4, h5, h6, h7, h8⟩
  · refine ⟨[], ?_⟩
    simp [Value.cells] at h1
    obtain ⟨rfl, rfl, rfl⟩ := h1
    exact Rd.nil W
  · simp [Value.cells] at h1
    obtain ⟨rfl, rfl, rfl⟩ := h1
    rw [if_pos rfl] at h5
    have hl : (zs.take len0).length = len0 := by simp; omega
    refine ⟨zs.take len0, some a, cap0, by rw [hl], by omega, h4, fun hn => ?_⟩
    have c0 := h7 0 (by omega)
    rw [Addr.add_zero'] at c0
    have ha := addr_of c0
    refine ⟨a.block, a.off, by rw [← ha], World.block_lt_of_cell? W a c0, fun i hi j u hu => ?_⟩
    have ci := h7 i (by omega)
    match j with
    | 0 =>
      simp [eI] at hu
      subst hu
      have e : a.add i = ⟨a.block, a.off + (i * 1 + 0), none⟩ := by
        unfold Addr.add
        by_cases h0 : i = 0
        · rw [if_pos h0]; subst h0; simpa using ha
        · rw [if_neg h0]; simp
      rw [← e, ci]
      simp [List.getD_eq_getElem?_getD, List.getElem?_eq_getElem (show i < zs.length by omega)]
    | j + 1 => simp [eI] at hu
end Go.Proofs.Ytblbhkcnmkcdfaa
