/- Arguments that are fares: what they are. -/
import Derived.Test.YtcppeligeodomaaFareEl
import Derived.ProofKit
import Derived.OpenShut
import Derived.ChangeSlices
import Derived.Deep.Slices
import Derived.Deep.Fields
import Derived.Lib.SmallJoins
import Derived.Laws.IdiomArrays
import Derived.ChangeSame
set_option linter.unusedVariables false
namespace Go.Proofs.Ytcppeligeodomaa
open Go.ChangeShapes Go.WideShapes Go.ChangeAt Go.RowKit Go.Joins Go.Deep
namespace Fa
theorem addr_of {W : World} {a : Addr} {v : Value} (h : W.cell? a = some v) : a = ⟨a.block, a.off, none⟩ := by
  obtain ⟨b, o, s⟩ := a
  cases s with
  | none => rfl
  | some s =>
    unfold World.cell? at h
    simp at h
    split at h <;> simp at h
theorem add_at {a : Addr} (ha : a = ⟨a.block, a.off, none⟩) (k : Nat) : a.add k = ⟨a.block, a.off + k, none⟩ := by
  unfold Addr.add
  by_cases h0 : k = 0
  · rw [if_pos h0]; subst h0; simpa using ha
  · rw [if_neg h0]
/-- a row, by the cell that holds its slice -/
theorem openRowC {H : Type} {enc : TypeId × Value → H} {W : World} {n0 : Nat} {c : Value} {x : DataW H × List MemPlace} (h : DataW.trod enc Try.prog W 0 (fun _ => true) true n0 37 [c] = some x) : ∃ (a : Option Addr) (cap : Nat) (ls : List Int), c = .slice a ls.length cap ∧ RdE elI W c ls := by
  rcases open_ints (k := .i64) Try.underlying37 Try.underlying3 (by kernel_rfl) h with ⟨h1, h2⟩ | ⟨a, len0, cap0, zs, h1, h2, h3, h4, h5, h6, h7, h8⟩
  · simp at h1
    subst h1
    exact ⟨none, 0, [], rfl, Rd.nil W⟩
  · simp at h1
    subst h1
    rw [if_pos rfl] at h5
    have hl : (zs.take len0).length = len0 := by simp; omega
    refine ⟨some a, cap0, zs.take len0, by rw [hl], some a, cap0, by rw [hl], by omega, h4, fun hn => ?_⟩
    have c0 := h7 0 (by omega)
    rw [Addr.add_zero'] at c0
    have ha := addr_of c0
    refine ⟨a.block, a.off, by rw [← ha], World.block_lt_of_cell? W a c0, fun i hi j u hu => ?_⟩
    have ci := h7 i (by omega)
    rw [add_at ha] at ci
    match j with
    | 0 =>
      simp [eI] at hu
      subst hu
      show W.cell? ⟨a.block, a.off + (i * 1 + 0), none⟩ = _
      rw [Nat.mul_one, Nat.add_zero, ci]
      simp [List.getD_eq_getElem?_getD, List.getElem?_eq_getElem (show i < zs.length by omega)]
    | j + 1 => simp [eI] at hu
end Fa
open Fa in
theorem openFares {H : Type} {enc : TypeId × Value → H} {W : World} {b0 : Nat} {v : Value} {d : DataW H} {p : List MemPlace} (hv0 : Value.okWide Try.prog W .any b0 23 v) (h : DataW.Trod enc Try.prog W 0 (fun _ => true) true 23 v d p) : ∃ rs : List Fa.Rw, Fa.RdF W v rs := by
  obtain ⟨a0, len0, cap0, rfl⟩ := okWide_slice Try.underlying23 hv0
  obtain ⟨fuel, hf⟩ := h
  have hC : Try.prog.cellsOf 37 = 1 := by kernel_rfl
  rcases open_slice Try.underlying23 hf with ⟨h1, h2⟩ | ⟨a, len, cap, m, n, D, Pl, h1, h2, h3, h4, h5, h6, h7⟩
  · simp [Value.cells] at h1
    obtain ⟨rfl, rfl, rfl⟩ := h1
    exact ⟨[], Rd.nil W, by simp⟩
  · simp [Value.cells] at h1
    obtain ⟨rfl, rfl, rfl⟩ := h1
    rw [if_pos rfl] at h5
    have key : ∀ i : Nat, ∃ q : Rw, i < m → W.cell? (a.add i) = some q.v ∧ RdI W q := by
      intro i
      by_cases him : i < m
      · obtain ⟨cs', hc, ht⟩ := h7 i him
        rw [hC] at hc
        obtain ⟨_, hcl, hat⟩ := World.cells?_some hc
        match cs', hcl with
        | [c0], _ =>
          obtain ⟨b, cp, ls, rfl, hr⟩ := openRowC ht
          refine ⟨⟨b, cp, ls⟩, fun _ => ⟨?_, hr⟩⟩
          have := hat 0 (by omega)
          rw [Addr.add_zero'] at this; simpa using this
      · exact ⟨⟨none, 0, []⟩, fun x => absurd x him⟩
    obtain ⟨f, hq⟩ := Classical.axiomOfChoice key
    have hl : ((List.range len0).map f).length = len0 := by simp
    refine ⟨(List.range len0).map f, ⟨some a, cap0, by rw [hl], by omega, h4, fun hn => ?_⟩, fun p hp => ?_⟩
    · have c0 := (hq 0 (by omega)).1
      rw [Addr.add_zero'] at c0
      have ha := addr_of c0
      refine ⟨a.block, a.off, by rw [← ha], World.block_lt_of_cell? W a c0, fun i hi j u hu => ?_⟩
      have hil : i < len0 := by omega
      obtain ⟨ci, _⟩ := hq i (by omega)
      rw [add_at ha] at ci
      have hfi : ((List.range len0).map f)[i] = f i := by simp
      rw [hfi] at hu
      match j with
      | 0 => simp [eR] at hu; subst hu; show W.cell? ⟨a.block, a.off + (i * 1 + 0), none⟩ = _; rw [Nat.mul_one, Nat.add_zero]; exact ci
      | j + 1 => simp [eR] at hu
    · rw [List.mem_map] at hp
      obtain ⟨i, hi, rfl⟩ := hp
      exact (hq i (by have := List.mem_range.1 hi; omega)).2
end Go.Proofs.Ytcppeligeodomaa
