/- Arguments that are slices of spans: what they are. -/
import Derived.Test.YtncpgfmamhjekaaSpansEl
import Derived.ProofKit
import Derived.OpenShut
import Derived.Deep.Slices
import Derived.Deep.Fields
import Derived.Lib.SmallJoins
import Derived.ChangeSame
set_option linter.unusedSimpArgs false
set_option linter.unusedVariables false
namespace Go.Proofs.Ytncpgfmamhjekaa
open Go.ChangeShapes Go.WideShapes Go.ChangeAt Go.RowKit Go.Joins Go.Deep
theorem addr_of {W : World} {a : Addr} {v : Value} (h : W.cell? a = some v) : a = ⟨a.block, a.off, none⟩ := by
  obtain ⟨b, o, s⟩ := a
  cases s with
  | none => rfl
  | some s =>
    unfold World.cell? at h
    simp at h
    split at h <;> simp at h
theorem add_at {a : Addr} (ha : a = ⟨a.block, a.off, none⟩) (k : Nat) : a.add k = ⟨a.block, a.off + k, none⟩ := by
  unfold Addr.add
  by_cases h0 : k = 0
  · rw [if_pos h0]; subst h0; simpa using ha
  · rw [if_neg h0]
theorem openSpans {H : Type} {enc : TypeId × Value → H} {W : World} {b0 : Nat} {v : Value} {d : DataW H} {p : List MemPlace} (hv0 : Value.okWide Try.prog W .any b0 22 v) (h : DataW.Trod enc Try.prog W 0 (fun _ => true) true 22 v d p) : ∃ xs : List Sn.Sp, RdE Sn.elS W v xs := by
  obtain ⟨a0, len0, cap0, rfl⟩ := okWide_slice Try.underlying22 hv0
  obtain ⟨fuel, hf⟩ := h
  have hC : Try.prog.cellsOf 39 = 2 := by kernel_rfl
  have hCi : Try.prog.cellsOf 3 = 1 := by kernel_rfl
  rcases open_slice Try.underlying22 hf with ⟨h1, h2⟩ | ⟨a, len, cap, m, n, D, Pl, h1, h2, h3, h4, h5, h6, h7⟩
  · simp [Value.cells] at h1
    obtain ⟨rfl, rfl, rfl⟩ := h1
    exact ⟨[], none, 0, rfl, Nat.le_refl _, Nat.zero_le _, fun h => by simp at h⟩
  · simp [Value.cells] at h1
    obtain ⟨rfl, rfl, rfl⟩ := h1
    rw [if_pos rfl] at h5
    have key : ∀ i : Nat, ∃ q : Int × Int, i < m → W.cell? (a.add (i * 2)) = some (.int .i64 q.1) ∧ W.cell? (a.add (i * 2 + 1)) = some (.int .i64 q.2) := by
      intro i
      by_cases him : i < m
      · obtain ⟨cs', hc, ht⟩ := h7 i him
        rw [hC] at hc
        obtain ⟨_, hcl, hat⟩ := World.cells?_some hc
        obtain ⟨ys, n', _, _, _, _, hg⟩ := DataW.trod_struct Try.underlying39 ht
        match cs', hcl with
        | [c0, c1], _ =>
          have g0 := hg 0 _ rfl
          have g1 := hg 1 _ rfl
          have hy : ∀ (k : Nat) (y : Option (DataW H × List MemPlace)) (c : Value), DataW.trod enc Try.prog W 0 (fun _ => true) true n' 3 [c] = y → y ≠ none → ∃ q : Int, c = .int .i64 q := fun k y c hh hne => by
            obtain ⟨z, rfl⟩ := Option.ne_none_iff_exists'.1 hne
            obtain ⟨q, e, _, _⟩ := DataW.trod_int Try.underlying3 hh
            simp at e
            exact ⟨q, e⟩
          have hlen : ys.length = 2 := by assumption
          have e0 : DataW.trod enc Try.prog W 0 (fun _ => true) true n' 3 [c0] = ys[0]? := by simpa [hCi] using g0
          have e1 : DataW.trod enc Try.prog W 0 (fun _ => true) true n' 3 [c1] = ys[1]? := by simpa [hCi] using g1
          obtain ⟨q0, rfl⟩ := hy 0 _ c0 e0 (by rw [List.getElem?_eq_getElem (by omega)]; simp)
          obtain ⟨q1, rfl⟩ := hy 1 _ c1 e1 (by rw [List.getElem?_eq_getElem (by omega)]; simp)
          refine ⟨(q0, q1), fun _ => ⟨?_, ?_⟩⟩
          · have := hat 0 (by omega); rw [Addr.add_zero'] at this; simpa using this
          · have := hat 1 (by omega); rw [Go.Deep.add_add] at this; simpa using this
      · exact ⟨(0, 0), fun x => absurd x him⟩
    obtain ⟨f, hq⟩ := Classical.axiomOfChoice key
    have hl : ((List.range len0).map f).length = len0 := by simp
    refine ⟨(List.range len0).map f, some a, cap0, by rw [hl], by omega, h4, fun hn => ?_⟩
    have c0 := (hq 0 (by omega)).1
    rw [Nat.zero_mul, Addr.add_zero'] at c0
    have ha := addr_of c0
    refine ⟨a.block, a.off, by rw [← ha], World.block_lt_of_cell? W a c0, fun i hi j u hu => ?_⟩
    have hil : i < len0 := by omega
    obtain ⟨ci, di⟩ := hq i (by omega)
    rw [add_at ha] at ci di
    have hfi : ((List.range len0).map f)[i] = f i := by simp
    rw [hfi] at hu
    match j with
    | 0 => simp [Sn.eS] at hu; subst hu; exact ci
    | 1 => simp [Sn.eS] at hu; subst hu; exact di
    | j + 2 => simp [Sn.eS] at hu
theorem sizedSpans {H : Type} {ts : List TypeId} {ds : List (DataW H)} (hs : (DataW.weightsEach Try.prog ts ds).all (· ≤ reachBytes) = true) {j : Nat} (ht : ts[j]? = some 22) {d : DataW H} (hd : ds[j]? = some d) {xs : List Sn.Sp}
    (z : xs = [] ∨ ∃ elems spare, d = .slice elems spare ∧ elems.length = xs.length) : xs.length * 16 ≤ 140737488351232 := by
  rcases z with rfl | ⟨el, sp, rfl, hz⟩
  · simp
  · have hq := sized_slice hs ht hd Try.underlying22
    have hb : Try.prog.bytesOf 39 = 16 := by kernel_rfl
    have hr : reachBytes = 140737488351232 := rfl
    rw [hb, hr] at hq
    omega
end Go.Proofs.Ytncpgfmamhjekaa
