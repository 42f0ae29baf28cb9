/- Arguments that are slices of strings: what they are. -/
import Derived.Test.YtlpefkbgdbiinaaFrameLaws
import Derived.ProofKit
import Derived.OpenShut
import Derived.Deep.Strs
import Derived.Deep.Slices
import Derived.Deep.Fields
import Derived.Lib.SmallJoins
import Derived.Laws.IdiomArrays
import Derived.ChangeSame
set_option linter.unusedVariables false
namespace Go.Proofs.Ytlpefkbgdbiinaa
open Go.ChangeShapes Go.WideShapes Go.ChangeAt Go.RowKit Go.Joins Go.Deep
namespace Fr
theorem addr_of {W : World} {a : Addr} {v : Value} (h : W.cell? a = some v) : a = ⟨a.block, a.off, none⟩ := by
  obtain ⟨b, o, s⟩ := a
  cases s with
  | none => rfl
  | some s =>
    unfold World.cell? at h
    simp at h
    split at h <;> simp at h
theorem add_at {a : Addr} (ha : a = ⟨a.block, a.off, none⟩) (k : Nat) : a.add k = ⟨a.block, a.off + k, none⟩ := by
  unfold Addr.add
  by_cases h0 : k = 0
  · rw [if_pos h0]; subst h0; simpa using ha
  · rw [if_neg h0]
end Fr
theorem openStrs {H : Type} {enc : TypeId × Value → H} {W : World} {b0 : Nat} {v : Value} {d : DataW H} {p : List MemPlace} (hv0 : Value.okWide Try.prog W .any b0 22 v) (h : DataW.Trod enc Try.prog W 0 (fun _ => true) true 22 v d p) : ∃ xs : List ByteArray, Fr.RdS W v xs := by
  obtain ⟨a0, len0, cap0, rfl⟩ := okWide_slice Try.underlying22 hv0
  obtain ⟨fuel, hf⟩ := h
  rcases open_strs Try.underlying22 Try.underlying9 (by kernel_rfl) hf with ⟨h1, h2⟩ | ⟨a, len, cap, m, Sx, h1, h2, h3, h4, h5, h6, h7⟩
  · simp [Value.cells] at h1
    obtain ⟨rfl, rfl, rfl⟩ := h1
    exact ⟨[], Rd.nil W, fun s hs => by simp at hs⟩
  · simp [Value.cells] at h1
    obtain ⟨rfl, rfl, rfl⟩ := h1
    rw [if_pos rfl] at h5
    have hl : ((List.range len0).map Sx).length = len0 := by simp
    refine ⟨(List.range len0).map Sx, ⟨some a, cap0, by rw [hl], by omega, h4, fun hn => ?_⟩, fun s hs => ?_⟩
    · have c0 := (h7 0 (by omega)).1
      rw [Addr.add_zero'] at c0
      have ha := Fr.addr_of c0
      refine ⟨a.block, a.off, by rw [← ha], World.block_lt_of_cell? W a c0, fun i hi j u hu => ?_⟩
      have hil : i < len0 := by omega
      have ci := (h7 i (by omega)).1
      rw [Fr.add_at ha] at ci
      match j with
      | 0 => simp [eS] at hu; subst hu; simpa using ci
      | j + 1 => simp [eS] at hu
    · rw [List.mem_map] at hs
      obtain ⟨i, hi, rfl⟩ := hs
      exact (h7 i (by have := List.mem_range.1 hi; omega)).2
end Go.Proofs.Ytlpefkbgdbiinaa
