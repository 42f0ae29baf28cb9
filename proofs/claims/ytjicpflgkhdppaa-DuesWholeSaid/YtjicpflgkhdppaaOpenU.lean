/- Arguments that are terms, or dues: what they are. -/
import Derived.Test.YtjicpflgkhdppaaOpenK
import Derived.Test.YtjicpflgkhdppaaDuePaid
set_option linter.unusedSimpArgs false
set_option linter.unusedVariables false
namespace Go.Proofs.Ytjicpflgkhdppaa
open Go.ChangeShapes Go.WideShapes Go.ChangeAt Go.RowKit Go.Joins Go.Deep
def aTm (x : Int × Int) : Value := .agg #[.int .i64 x.1, .int .i64 x.2]
def WfT (x : Int × Int) : Prop := (Lit.int .i64 x.1).wf = true ∧ (Lit.int .i64 x.2).wf = true
set_option maxRecDepth 100000 in
theorem openTerm {H : Type} {enc : TypeId × Value → H} {W : World} {b0 : Nat} {v : Value} {d : DataW H} {p : List MemPlace} (hv : Value.okWide Try.prog W .any b0 50 v) (h : DataW.Trod enc Try.prog W 0 (fun _ => true) true 50 v d p) : ∃ x : Int × Int, v = aTm x ∧ WfT x := by
  obtain ⟨c0, c1, y0, y1, m, rfl, rfl, rfl, hy0, hy1⟩ := open_agg2 Try.underlying50 (by kernel_rfl) (by kernel_rfl) hv h
  obtain ⟨a, e0, _, wa⟩ := DataW.trod_int Try.underlying3 hy0
  obtain ⟨b, e1, _, wb⟩ := DataW.trod_int Try.underlying3 hy1
  simp at e0 e1
  subst e0 e1
  exact ⟨(a, b), rfl, wa, wb⟩
set_option maxRecDepth 100000 in
open Wk in
theorem openDues {H : Type} {enc : TypeId × Value → H} {W : World} {b0 : Nat} {v : Value} {d : DataW H} {p : List MemPlace} (hv0 : Value.okWide Try.prog W .any b0 51 v) (h0 : DataW.Trod enc Try.prog W 0 (fun _ => true) true 51 v d p) : ∃ ls : List Du.Due, RdE Du.elU W v ls := by
  obtain ⟨a0, len0, cap0, rfl⟩ := okWide_slice Try.underlying51 hv0
  obtain ⟨fuel, h⟩ := h0
  have hC : Try.prog.cellsOf 61 = 2 := by kernel_rfl
  have hCi : Try.prog.cellsOf 3 = 1 := by kernel_rfl
  rcases open_slice Try.underlying51 h with ⟨h1, h2⟩ | ⟨a, len, cap, m, n, D, Pl, h1, h2, h3, h4, h5, h6, h7⟩
  · simp [Value.cells] at h1
    obtain ⟨rfl, rfl, rfl⟩ := h1
    exact ⟨[], Rd.nil W⟩
  · simp [Value.cells] at h1
    obtain ⟨rfl, rfl, rfl⟩ := h1
    rw [if_pos rfl] at h5
    have key : ∀ i : Nat, ∃ q : Int × Int, i < m → W.cell? (a.add (i * 2)) = some (.int .i64 q.1) ∧ W.cell? (a.add (i * 2 + 1)) = some (.int .i64 q.2) := by
      intro i
      by_cases him : i < m
      · obtain ⟨cs', hc, ht⟩ := h7 i him
        rw [hC] at hc
        obtain ⟨_, hcl, hat⟩ := World.cells?_some hc
        obtain ⟨ys, n', _, _, _, _, hg⟩ := DataW.trod_struct Try.underlying61 ht
        match cs', hcl with
        | [c0, c1], _ =>
          have g0 := hg 0 _ rfl
          have g1 := hg 1 _ rfl
          have hlen : ys.length = 2 := by assumption
          obtain ⟨q0, rfl⟩ := open_int (k := 0) (ys := ys) (by omega) (by simpa [hCi] using g0)
          obtain ⟨q1, rfl⟩ := open_int (k := 1) (ys := ys) (by omega) (by simpa [hCi] using g1)
          refine ⟨(q0, q1), fun _ => ⟨?_, ?_⟩⟩
          · have := hat 0 (by omega); rw [Addr.add_zero'] at this; simpa using this
          · have := hat 1 (by omega); rw [Go.Deep.add_add] at this; simpa using this
      · exact ⟨(0, 0), fun x => absurd x him⟩
    obtain ⟨f, hq⟩ := Classical.axiomOfChoice key
    have hl : ((List.range len0).map f).length = len0 := by simp
    refine ⟨(List.range len0).map f, some a, cap0, by rw [hl], by omega, h4, fun hn => ?_⟩
    have c0 := (hq 0 (by omega)).1
    rw [Nat.zero_mul, Addr.add_zero'] at c0
    have ha := addr_of c0
    refine ⟨a.block, a.off, by rw [← ha], World.block_lt_of_cell? W a c0, fun i hi j u hu => ?_⟩
    have hil : i < len0 := by omega
    obtain ⟨ci, di⟩ := hq i (by omega)
    rw [add_at ha] at ci di
    have hfi : ((List.range len0).map f)[i] = f i := by simp
    rw [hfi] at hu
    match j with
    | 0 => simp [Du.eU] at hu; subst hu; exact ci
    | 1 => simp [Du.eU] at hu; subst hu; exact di
    | j + 2 => simp [Du.eU] at hu
end Go.Proofs.Ytjicpflgkhdppaa
