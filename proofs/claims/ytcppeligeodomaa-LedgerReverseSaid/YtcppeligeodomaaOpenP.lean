/- Arguments that are ledgers, or postings: what they are. -/
import Derived.Test.YtcppeligeodomaaLedEl
import Derived.ProofKit
import Derived.OpenShut
import Derived.Deep.Slices
import Derived.Deep.Fields
import Derived.Lib.SmallJoins
import Derived.Laws.IdiomArrays
import Derived.ChangeSame
set_option linter.unusedVariables false
namespace Go.Proofs.Ytcppeligeodomaa
open Go.ChangeShapes Go.WideShapes Go.ChangeAt Go.RowKit Go.Joins Go.Deep
namespace Ld
theorem addr_of {W : World} {a : Addr} {v : Value} (h : W.cell? a = some v) : a = ⟨a.block, a.off, none⟩ := by
  obtain ⟨b, o, s⟩ := a
  cases s with
  | none => rfl
  | some s =>
    unfold World.cell? at h
    simp at h
    split at h <;> simp at h
theorem add_at {a : Addr} (ha : a = ⟨a.block, a.off, none⟩) (k : Nat) : a.add k = ⟨a.block, a.off + k, none⟩ := by
  unfold Addr.add
  by_cases h0 : k = 0
  · rw [if_pos h0]; subst h0; simpa using ha
  · rw [if_neg h0]
theorem open_int {H : Type} {enc : TypeId × Value → H} {W : World} {n' : Nat} {c : Value} {ys : List (DataW H × List MemPlace)} {k : Nat} (hk : k < ys.length) (e : DataW.trod enc Try.prog W 0 (fun _ => true) true n' 3 [c] = ys[k]?) : ∃ q : Int, c = .int .i64 q := by
  rw [List.getElem?_eq_getElem hk] at e
  obtain ⟨q, e, _, _⟩ := DataW.trod_int Try.underlying3 e
  simp at e
  exact ⟨q, e⟩
/-- lines, by the cell that holds their slice -/
theorem openLinesC {H : Type} {enc : TypeId × Value → H} {W : World} {n0 : Nat} {c : Value} {x : DataW H × List MemPlace} (h : DataW.trod enc Try.prog W 0 (fun _ => true) true n0 40 [c] = some x) : ∃ (a : Option Addr) (cap : Nat) (ls : List Ln), c = .slice a ls.length cap ∧ RdE elN W c ls := by
  have hC : Try.prog.cellsOf 62 = 2 := by kernel_rfl
  have hCi : Try.prog.cellsOf 3 = 1 := by kernel_rfl
  rcases open_slice Try.underlying40 h with ⟨h1, h2⟩ | ⟨a, len0, cap0, m, n, D, Pl, h1, h2, h3, h4, h5, h6, h7⟩
  · simp at h1
    subst h1
    exact ⟨none, 0, [], rfl, Rd.nil W⟩
  · simp at h1
    subst h1
    rw [if_pos rfl] at h5
    have key : ∀ i : Nat, ∃ q : Int × Int, i < m → W.cell? (a.add (i * 2)) = some (.int .i64 q.1) ∧ W.cell? (a.add (i * 2 + 1)) = some (.int .i64 q.2) := by
      intro i
      by_cases him : i < m
      · obtain ⟨cs', hc, ht⟩ := h7 i him
        rw [hC] at hc
        obtain ⟨_, hcl, hat⟩ := World.cells?_some hc
        obtain ⟨ys, n', _, _, _, _, hg⟩ := DataW.trod_struct Try.underlying62 ht
        match cs', hcl with
        | [c0, c1], _ =>
          have g0 := hg 0 _ rfl
          have g1 := hg 1 _ rfl
          have hlen : ys.length = 2 := by assumption
          obtain ⟨q0, rfl⟩ := open_int (k := 0) (ys := ys) (by omega) (by simpa [hCi] using g0)
          obtain ⟨q1, rfl⟩ := open_int (k := 1) (ys := ys) (by omega) (by simpa [hCi] using g1)
          refine ⟨(q0, q1), fun _ => ⟨?_, ?_⟩⟩
          · have := hat 0 (by omega); rw [Addr.add_zero'] at this; simpa using this
          · have := hat 1 (by omega); rw [Go.Deep.add_add] at this; simpa using this
      · exact ⟨(0, 0), fun x => absurd x him⟩
    obtain ⟨f, hq⟩ := Classical.axiomOfChoice key
    have hl : ((List.range len0).map f).length = len0 := by simp
    refine ⟨some a, cap0, (List.range len0).map f, by rw [hl], some a, cap0, by rw [hl], by omega, h4, fun hn => ?_⟩
    have c0 := (hq 0 (by omega)).1
    rw [Nat.zero_mul, Addr.add_zero'] at c0
    have ha := addr_of c0
    refine ⟨a.block, a.off, by rw [← ha], World.block_lt_of_cell? W a c0, fun i hi j u hu => ?_⟩
    have hil : i < len0 := by omega
    obtain ⟨ci, di⟩ := hq i (by omega)
    rw [add_at ha] at ci di
    have hfi : ((List.range len0).map f)[i] = f i := by simp
    rw [hfi] at hu
    match j with
    | 0 => simp [eN] at hu; subst hu; exact ci
    | 1 => simp [eN] at hu; subst hu; exact di
    | j + 2 => simp [eN] at hu
end Ld
open Ld in
theorem openPostings {H : Type} {enc : TypeId × Value → H} {W : World} {b0 : Nat} {v : Value} {d : DataW H} {p : List MemPlace} (hv0 : Value.okWide Try.prog W .any b0 39 v) (h : DataW.Trod enc Try.prog W 0 (fun _ => true) true 39 v d p) : ∃ ps : List Ld.Po, Ld.RdL W v ps := by
  obtain ⟨a0, len0, cap0, rfl⟩ := okWide_slice Try.underlying39 hv0
  obtain ⟨fuel, hf⟩ := h
  have hC : Try.prog.cellsOf 42 = 2 := by kernel_rfl
  have hCi : Try.prog.cellsOf 3 = 1 := by kernel_rfl
  have hCs : Try.prog.cellsOf 40 = 1 := by kernel_rfl
  rcases open_slice Try.underlying39 hf with ⟨h1, h2⟩ | ⟨a, len, cap, m, n, D, Pl, h1, h2, h3, h4, h5, h6, h7⟩
  · simp [Value.cells] at h1
    obtain ⟨rfl, rfl, rfl⟩ := h1
    exact ⟨[], Rd.nil W, by simp⟩
  · simp [Value.cells] at h1
    obtain ⟨rfl, rfl, rfl⟩ := h1
    rw [if_pos rfl] at h5
    have key : ∀ i : Nat, ∃ q : Po, i < m → W.cell? (a.add (i * 2)) = some (.int .i64 q.id) ∧ W.cell? (a.add (i * 2 + 1)) = some q.v ∧ RdN W q := by
      intro i
      by_cases him : i < m
      · obtain ⟨cs', hc, ht⟩ := h7 i him
        rw [hC] at hc
        obtain ⟨_, hcl, hat⟩ := World.cells?_some hc
        obtain ⟨ys, n', _, _, _, _, hg⟩ := DataW.trod_struct Try.underlying42 ht
        match cs', hcl with
        | [c0, c1], _ =>
          have g0 := hg 0 _ rfl
          have g1 := hg 1 _ rfl
          have hlen : ys.length = 2 := by assumption
          obtain ⟨q0, rfl⟩ := open_int (k := 0) (ys := ys) (by omega) (by simpa [hCi] using g0)
          have g1' : DataW.trod enc Try.prog W 0 (fun _ => true) true n' 40 [c1] = ys[1]? := by simpa [hCi, hCs] using g1
          rw [List.getElem?_eq_getElem (by omega)] at g1'
          obtain ⟨b, cp, ls, rfl, hr⟩ := openLinesC g1'
          refine ⟨⟨q0, b, cp, ls⟩, fun _ => ⟨?_, ?_, hr⟩⟩
          · have := hat 0 (by omega); rw [Addr.add_zero'] at this; simpa using this
          · have := hat 1 (by omega); rw [Go.Deep.add_add] at this; simpa using this
      · exact ⟨⟨0, none, 0, []⟩, fun x => absurd x him⟩
    obtain ⟨f, hq⟩ := Classical.axiomOfChoice key
    have hl : ((List.range len0).map f).length = len0 := by simp
    refine ⟨(List.range len0).map f, ⟨some a, cap0, by rw [hl], by omega, h4, fun hn => ?_⟩, fun p hp => ?_⟩
    · have c0 := (hq 0 (by omega)).1
      rw [Nat.zero_mul, Addr.add_zero'] at c0
      have ha := addr_of c0
      refine ⟨a.block, a.off, by rw [← ha], World.block_lt_of_cell? W a c0, fun i hi j u hu => ?_⟩
      have hil : i < len0 := by omega
      obtain ⟨ci, di, _⟩ := hq i (by omega)
      rw [add_at ha] at ci di
      have hfi : ((List.range len0).map f)[i] = f i := by simp
      rw [hfi] at hu
      match j with
      | 0 => simp [eP] at hu; subst hu; exact ci
      | 1 => simp [eP] at hu; subst hu; exact di
      | j + 2 => simp [eP] at hu
    · rw [List.mem_map] at hp
      obtain ⟨i, hi, rfl⟩ := hp
      exact (hq i (by have := List.mem_range.1 hi; omega)).2.2
/-- a posting by itself -/
def Ld.RdPo (W : World) (v : Value) (p : Ld.Po) : Prop := v = Ld.aP p ∧ Ld.RdN W p
theorem openPosting {H : Type} {enc : TypeId × Value → H} {W : World} {b0 : Nat} {v : Value} {d : DataW H} {p : List MemPlace} (hv : Value.okWide Try.prog W .any b0 42 v) (h : DataW.Trod enc Try.prog W 0 (fun _ => true) true 42 v d p) : ∃ q : Ld.Po, Ld.RdPo W v q := by
  obtain ⟨c0, c1, y0, y1, m, rfl, rfl, rfl, hy0, hy1⟩ := open_agg2 Try.underlying42 (by kernel_rfl) (by kernel_rfl) hv h
  obtain ⟨q0, e0, _, _⟩ := DataW.trod_int Try.underlying3 hy0
  obtain ⟨a, cap, ls, rfl, hr⟩ := Ld.openLinesC hy1
  simp at e0
  subst e0
  exact ⟨⟨q0, a, cap, ls⟩, rfl, hr⟩
end Go.Proofs.Ytcppeligeodomaa
