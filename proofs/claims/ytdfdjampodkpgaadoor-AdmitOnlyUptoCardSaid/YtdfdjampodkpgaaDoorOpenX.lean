/- Arguments that are slices of passes: what they are. -/
import Derived.Test.YtdfdjampodkpgaaDoorJOpen
import Derived.Test.YtdfdjampodkpgaaDoorPassEl
import Derived.Laws.IdiomArrays
set_option linter.unusedSimpArgs false
set_option linter.unusedVariables false
namespace Go.Proofs.YtdfdjampodkpgaaDoor
open Go.ChangeShapes Go.WideShapes Go.ChangeAt Go.RowKit Go.Joins Go.Deep
set_option maxRecDepth 100000 in
open Pa in
theorem openPasses {H : Type} {enc : TypeId × Value → H} {W : World} {b0 : Nat} {v : Value} {d : DataW H} {p : List MemPlace} (hv0 : Value.okWide Tryd.prog W .any b0 36 v) (h : DataW.Trod enc Tryd.prog W 0 (fun _ => true) true 36 v d p) : ∃ xs : List Pa.Px, Pa.RdX W v xs := by
  obtain ⟨a0, len0, cap0, rfl⟩ := okWide_slice Tryd.underlying36 hv0
  obtain ⟨fuel, hf⟩ := h
  have hC : Tryd.prog.cellsOf 25 = 6 := by kernel_rfl
  have hC1 : Tryd.prog.cellsOf 3 = 1 := by kernel_rfl
  have hC2 : Tryd.prog.cellsOf 23 = 1 := by kernel_rfl
  rcases open_slice Tryd.underlying36 hf with ⟨h1, h2⟩ | ⟨a, len, cap, m, n, D, Pl, h1, h2, h3, h4, h5, h6, h7⟩
  · simp [Value.cells] at h1
    obtain ⟨rfl, rfl, rfl⟩ := h1
    exact ⟨[], Pa.RdX.nil W⟩
  · simp [Value.cells] at h1
    obtain ⟨rfl, rfl, rfl⟩ := h1
    rw [if_pos rfl] at h5
    have key : ∀ i : Nat, ∃ q : Pa.Px, i < m → (W.cell? (a.add (i * 6)) = some (.int .i64 q.p.id) ∧ W.cell? (a.add (i * 6 + 1)) = some (.int .i64 q.p.born) ∧ W.cell? (a.add (i * 6 + 2)) = some (.int .i64 q.p.a)
        ∧ W.cell? (a.add (i * 6 + 3)) = some (.int .i64 q.p.b) ∧ W.cell? (a.add (i * 6 + 4)) = some (.int .i64 q.p.ser) ∧ W.cell? (a.add (i * 6 + 5)) = some q.v) ∧ Pa.RdD W q := by
      intro i
      by_cases him : i < m
      · obtain ⟨cs', hc, ht⟩ := h7 i him
        rw [hC] at hc
        obtain ⟨_, hcl, hat⟩ := World.cells?_some hc
        obtain ⟨ys, n', _, _, _, _, hg⟩ := DataW.trod_struct Tryd.underlying25 ht
        match cs', hcl with
        | [c0, c1, c2, c3, c4, c5], _ =>
          have g0 := hg 0 _ rfl
          have g1 := hg 1 _ rfl
          have g2 := hg 2 _ rfl
          have g3 := hg 3 _ rfl
          have g4 := hg 4 _ rfl
          have g5 := hg 5 _ rfl
          have hlen : ys.length = 6 := by assumption
          rw [List.getElem?_eq_getElem (by omega)] at g0 g1 g2 g3 g4 g5
          obtain ⟨q0, rfl⟩ := open_i (c := c0) (z := ys[0]) (by simpa [hC1, hC2, Value.cells] using g0)
          obtain ⟨q1, rfl⟩ := open_i (c := c1) (z := ys[1]) (by simpa [hC1, hC2, Value.cells] using g1)
          obtain ⟨q2, rfl⟩ := open_i (c := c2) (z := ys[2]) (by simpa [hC1, hC2, Value.cells] using g2)
          obtain ⟨q3, rfl⟩ := open_i (c := c3) (z := ys[3]) (by simpa [hC1, hC2, Value.cells] using g3)
          obtain ⟨q4, rfl⟩ := open_i (c := c4) (z := ys[4]) (by simpa [hC1, hC2, Value.cells] using g4)
          obtain ⟨ls, hr⟩ := openSpansC (c := c5) (x := ys[5]) (by simpa [hC1, hC2, Value.cells] using g5)
          obtain ⟨b, cp, rfl, hr1, hr2, hr3⟩ := hr
          refine ⟨⟨⟨q0, q1, q2, q3, q4⟩, b, cp, ls⟩, fun _ => ⟨⟨?_, ?_, ?_, ?_, ?_, ?_⟩, ⟨b, cp, rfl, hr1, hr2, hr3⟩⟩⟩
          · have := hat 0 (by omega); rw [Addr.add_zero'] at this; simpa using this
          · have := hat 1 (by omega); rw [Go.Deep.add_add] at this; simpa using this
          · have := hat 2 (by omega); rw [Go.Deep.add_add] at this; simpa using this
          · have := hat 3 (by omega); rw [Go.Deep.add_add] at this; simpa using this
          · have := hat 4 (by omega); rw [Go.Deep.add_add] at this; simpa using this
          · have := hat 5 (by omega); rw [Go.Deep.add_add] at this; simpa using this
      · exact ⟨⟨⟨0, 0, 0, 0, 0⟩, none, 0, []⟩, fun x => absurd x him⟩
    obtain ⟨f, hq⟩ := Classical.axiomOfChoice key
    have hl : ((List.range len0).map f).length = len0 := by simp
    refine ⟨(List.range len0).map f, ⟨some a, cap0, by rw [hl], by omega, h4, fun hn => ?_⟩, fun p hp => ?_⟩
    · have c0 := (hq 0 (by omega)).1.1
      rw [Nat.zero_mul, Addr.add_zero'] at c0
      have ha := addr_of c0
      refine ⟨a.block, a.off, by rw [← ha], World.block_lt_of_cell? W a c0, fun i hi j u hu => ?_⟩
      have hil : i < len0 := by omega
      obtain ⟨⟨d0, d1, d2, d3, d4, d5⟩, _⟩ := hq i (by omega)
      rw [add_at ha] at d0 d1 d2 d3 d4 d5
      have hfi : ((List.range len0).map f)[i] = f i := by simp
      rw [hfi] at hu
      match j with
      | 0 => simp [Pa.eX] at hu; subst hu; exact d0
      | 1 => simp [Pa.eX] at hu; subst hu; exact d1
      | 2 => simp [Pa.eX] at hu; subst hu; exact d2
      | 3 => simp [Pa.eX] at hu; subst hu; exact d3
      | 4 => simp [Pa.eX] at hu; subst hu; exact d4
      | 5 => simp [Pa.eX] at hu; subst hu; exact d5
      | j + 6 => simp [Pa.eX] at hu
    · rw [List.mem_map] at hp
      obtain ⟨i, hi, rfl⟩ := hp
      exact (hq i (by have := List.mem_range.1 hi; omega)).2
end Go.Proofs.YtdfdjampodkpgaaDoor
