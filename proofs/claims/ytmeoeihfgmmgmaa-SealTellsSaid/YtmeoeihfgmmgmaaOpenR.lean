/- Arguments that are keys, or slices of epochs: what they are. -/
import Derived.Test.YtmeoeihfgmmgmaaRingOwn
import Derived.Test.YtmeoeihfgmmgmaaOpenW
import Derived.ProofKit
import Derived.OpenShut
import Derived.Lib.SmallJoins
import Derived.Laws.IdiomArrays
import Derived.Deep.Slices
import Derived.Deep.Fields
import Derived.ChangeSame
set_option linter.unusedVariables false
namespace Go.Proofs.Ytmeoeihfgmmgmaa
open Go.ChangeShapes Go.WideShapes Go.ChangeAt Go.RowKit Go.Joins Go.Deep
namespace Rg
theorem addr_of {W : World} {a : Addr} {v : Value} (h : W.cell? a = some v) : a = ⟨a.block, a.off, none⟩ := by
  obtain ⟨b, o, s⟩ := a
  cases s with
  | none => rfl
  | some s =>
    unfold World.cell? at h
    simp at h
    split at h <;> simp at h
theorem add_at {a : Addr} (ha : a = ⟨a.block, a.off, none⟩) (k : Nat) : a.add k = ⟨a.block, a.off + k, none⟩ := by
  unfold Addr.add
  by_cases h0 : k = 0
  · rw [if_pos h0]; subst h0; simpa using ha
  · rw [if_neg h0]
end Rg
theorem openEpochs {H : Type} {enc : TypeId × Value → H} {W : World} {b0 : Nat} {v : Value} {d : DataW H} {p : List MemPlace} (hv0 : Value.okWide Try.prog W .any b0 22 v) (h : DataW.Trod enc Try.prog W 0 (fun _ => true) true 22 v d p) : ∃ xs : List Rg.Ep, Rd 3 Rg.eE W v xs := by
  obtain ⟨a0, len0, cap0, rfl⟩ := okWide_slice Try.underlying22 hv0
  obtain ⟨fuel, hf⟩ := h
  have hC : Try.prog.cellsOf 40 = 3 := by kernel_rfl
  have hCi : Try.prog.cellsOf 3 = 1 := by kernel_rfl
  have hCk : Try.prog.cellsOf 25 = 2 := by kernel_rfl
  have hCu : Try.prog.cellsOf 23 = 1 := by kernel_rfl
  rcases open_slice Try.underlying22 hf with ⟨h1, h2⟩ | ⟨a, len, cap, m, n, D, Pl, h1, h2, h3, h4, h5, h6, h7⟩
  · simp [Value.cells] at h1
    obtain ⟨rfl, rfl, rfl⟩ := h1
    exact ⟨[], Rd.nil W⟩
  · simp [Value.cells] at h1
    obtain ⟨rfl, rfl, rfl⟩ := h1
    rw [if_pos rfl] at h5
    have key : ∀ i : Nat, ∃ q : Rg.Ep, i < m → W.cell? (a.add (i * 3)) = some (.int .i64 q.1) ∧ W.cell? (a.add (i * 3 + 1)) = some (.int .u64 (Tg.wi q.2.1)) ∧ W.cell? (a.add (i * 3 + 2)) = some (.int .u64 (Tg.wi q.2.2)) := by
      intro i
      by_cases him : i < m
      · obtain ⟨cs', hc, ht⟩ := h7 i him
        rw [hC] at hc
        obtain ⟨_, hcl, hat⟩ := World.cells?_some hc
        obtain ⟨ys, n', _, _, _, hlen, hg⟩ := DataW.trod_struct Try.underlying40 ht
        match cs', hcl with
        | [c0, c1, c2], _ =>
          have g0 := hg 0 _ rfl
          have g1 := hg 1 _ rfl
          have hl2 : ys.length = 2 := hlen
          have e0 : DataW.trod enc Try.prog W 0 (fun _ => true) true n' 3 [c0] = ys[0]? := by simpa [hCi] using g0
          have e1 : DataW.trod enc Try.prog W 0 (fun _ => true) true n' 25 [c1, c2] = ys[1]? := by simpa [hCk] using g1
          obtain ⟨z0, hz0⟩ : ∃ z, ys[0]? = some z := ⟨_, List.getElem?_eq_getElem (by omega)⟩
          obtain ⟨z1, hz1⟩ : ∃ z, ys[1]? = some z := ⟨_, List.getElem?_eq_getElem (by omega)⟩
          rw [hz0] at e0; rw [hz1] at e1
          obtain ⟨q0, r0, _, _⟩ := DataW.trod_int Try.underlying3 e0
          obtain ⟨ks, n2, _, _, _, hlen2, hg2⟩ := DataW.trod_struct Try.underlying25 e1
          have hl3 : ks.length = 2 := hlen2
          have g2 := hg2 0 _ rfl
          have g3 := hg2 1 _ rfl
          have e2 : DataW.trod enc Try.prog W 0 (fun _ => true) true n2 23 [c1] = ks[0]? := by simpa [hCu] using g2
          have e3 : DataW.trod enc Try.prog W 0 (fun _ => true) true n2 23 [c2] = ks[1]? := by simpa [hCu] using g3
          obtain ⟨z2, hz2⟩ : ∃ z, ks[0]? = some z := ⟨_, List.getElem?_eq_getElem (by omega)⟩
          obtain ⟨z3, hz3⟩ : ∃ z, ks[1]? = some z := ⟨_, List.getElem?_eq_getElem (by omega)⟩
          rw [hz2] at e2; rw [hz3] at e3
          obtain ⟨q2, r2, _, f2⟩ := DataW.trod_int Try.underlying23 e2
          obtain ⟨q3, r3, _, f3⟩ := DataW.trod_int Try.underlying23 e3
          simp at r0 r2 r3
          subst r0 r2 r3
          obtain ⟨x2, rfl⟩ := Tg.word_of f2
          obtain ⟨x3, rfl⟩ := Tg.word_of f3
          refine ⟨(q0, x2, x3), fun _ => ⟨?_, ?_, ?_⟩⟩
          · have := hat 0 (by omega); rw [Addr.add_zero'] at this; simpa using this
          · have := hat 1 (by omega); rw [Go.Deep.add_add] at this; simpa using this
          · have := hat 2 (by omega); rw [Go.Deep.add_add] at this; simpa using this
      · exact ⟨(0, 0, 0), fun x => absurd x him⟩
    obtain ⟨f, hq⟩ := Classical.axiomOfChoice key
    have hl : ((List.range len0).map f).length = len0 := by simp
    refine ⟨(List.range len0).map f, some a, cap0, by rw [hl], by omega, h4, fun hn => ?_⟩
    have c0 := (hq 0 (by omega)).1
    rw [Nat.zero_mul, Addr.add_zero'] at c0
    have ha := Rg.addr_of c0
    refine ⟨a.block, a.off, by rw [← ha], World.block_lt_of_cell? W a c0, fun i hi j u hu => ?_⟩
    have hil : i < len0 := by omega
    obtain ⟨ci, di, ei⟩ := hq i (by omega)
    rw [Rg.add_at ha] at ci di ei
    have hfi : ((List.range len0).map f)[i] = f i := by simp
    rw [hfi] at hu
    match j with
    | 0 => simp [Rg.eE] at hu; subst hu; exact ci
    | 1 => simp [Rg.eE] at hu; subst hu; exact di
    | 2 => simp [Rg.eE] at hu; subst hu; exact ei
    | j + 3 => simp [Rg.eE] at hu
end Go.Proofs.Ytmeoeihfgmmgmaa
