/- Fares: an argument that is fares, and how great it may be. -/
import Derived.Test.YtcppeligeodomaaOpenF
import Derived.Test.YtcppeligeodomaaFareRest
import Derived.SizedLaws
set_option linter.unusedVariables false
namespace Go.Proofs.Ytcppeligeodomaa
open Go.ChangeShapes Go.WideShapes Go.ChangeAt Go.RowKit Go.Joins Go.Deep
namespace Fa
/-- a datum that has as many parts as the row -/
abbrev RowZ {H : Type} (d : DataW H) (ls : List Int) : Prop := ls = [] ∨ ∃ el sp, d = .slice el sp ∧ el.length = ls.length
abbrev FarZ {H : Type} (d : DataW H) (rs : List Rw) : Prop := rs = [] ∨ ∃ el sp, d = .slice el sp ∧ el.length = rs.length ∧ ∀ (i : Nat) (h : i < el.length) (h' : i < rs.length), RowZ el[i] rs[i].ls
/-- a row, by the cell that holds its slice -/
theorem openRowZ {H : Type} {enc : TypeId × Value → H} {W : World} {n0 : Nat} {c : Value} {x : DataW H × List MemPlace} (h : DataW.trod enc Try.prog W 0 (fun _ => true) true n0 37 [c] = some x) : ∃ (a : Option Addr) (cap : Nat) (ls : List Int), c = .slice a ls.length cap ∧ RdE elI W c ls ∧ RowZ x.1 ls := by
  rcases open_ints (k := .i64) Try.underlying37 Try.underlying3 (by kernel_rfl) h with ⟨h1, h2⟩ | ⟨a, len0, cap0, zs, h1, h2, h3, h4, h5, h6, h7, h8⟩
  · simp at h1
    subst h1
    exact ⟨none, 0, [], rfl, Rd.nil W, .inl rfl⟩
  · simp at h1
    subst h1
    rw [if_pos rfl] at h5
    have hl : (zs.take len0).length = len0 := by simp; omega
    refine ⟨some a, cap0, zs.take len0, by rw [hl], ⟨some a, cap0, by rw [hl], by omega, h4, fun hn => ?_⟩, .inr ⟨_, _, congrArg Prod.fst h6, by simp [lits]⟩⟩
    have c0 := h7 0 (by omega)
    rw [Addr.add_zero'] at c0
    have ha := addr_of c0
    refine ⟨a.block, a.off, by rw [← ha], World.block_lt_of_cell? W a c0, fun i hi j u hu => ?_⟩
    have ci := h7 i (by omega)
    rw [add_at ha] at ci
    match j with
    | 0 =>
      simp [eI] at hu
      subst hu
      show W.cell? ⟨a.block, a.off + (i * 1 + 0), none⟩ = _
      rw [Nat.mul_one, Nat.add_zero, ci]
      simp [List.getD_eq_getElem?_getD, List.getElem?_eq_getElem (show i < zs.length by omega)]
    | j + 1 => simp [eI] at hu
end Fa
open Fa in
theorem openFaresZ {H : Type} {enc : TypeId × Value → H} {W : World} {b0 : Nat} {v : Value} {d : DataW H} {p : List MemPlace} (hv0 : Value.okWide Try.prog W .any b0 23 v) (h : DataW.Trod enc Try.prog W 0 (fun _ => true) true 23 v d p) : ∃ rs : List Fa.Rw, Fa.RdF W v rs ∧ Fa.FarZ d rs := by
  obtain ⟨a0, len0, cap0, rfl⟩ := okWide_slice Try.underlying23 hv0
  obtain ⟨fuel, hf⟩ := h
  have hC : Try.prog.cellsOf 37 = 1 := by kernel_rfl
  rcases open_slice Try.underlying23 hf with ⟨h1, h2⟩ | ⟨a, len, cap, m, n, D, Pl, h1, h2, h3, h4, h5, h6, h7⟩
  · simp [Value.cells] at h1
    obtain ⟨rfl, rfl, rfl⟩ := h1
    exact ⟨[], ⟨Rd.nil W, by simp⟩, .inl rfl⟩
  · simp [Value.cells] at h1
    obtain ⟨rfl, rfl, rfl⟩ := h1
    rw [if_pos rfl] at h5
    have key : ∀ i : Nat, ∃ q : Rw, i < m → W.cell? (a.add i) = some q.v ∧ RdI W q ∧ RowZ (D i) q.ls := by
      intro i
      by_cases him : i < m
      · obtain ⟨cs', hc, ht⟩ := h7 i him
        rw [hC] at hc
        obtain ⟨_, hcl, hat⟩ := World.cells?_some hc
        match cs', hcl with
        | [c0], _ =>
          obtain ⟨b, cp, ls, rfl, hr, hzr⟩ := openRowZ ht
          refine ⟨⟨b, cp, ls⟩, fun _ => ⟨?_, hr, hzr⟩⟩
          have := hat 0 (by omega)
          rw [Addr.add_zero'] at this; simpa using this
      · exact ⟨⟨none, 0, []⟩, fun x => absurd x him⟩
    obtain ⟨f, hq⟩ := Classical.axiomOfChoice key
    have hl : ((List.range len0).map f).length = len0 := by simp
    injection h6 with h6d _
    refine ⟨(List.range len0).map f, ⟨⟨some a, cap0, by rw [hl], by omega, h4, fun hn => ?_⟩, fun p hp => ?_⟩, .inr ⟨_, _, h6d, by simp, fun i hi hi2 => ?_⟩⟩
    · have c0 := (hq 0 (by omega)).1
      rw [Addr.add_zero'] at c0
      have ha := addr_of c0
      refine ⟨a.block, a.off, by rw [← ha], World.block_lt_of_cell? W a c0, fun i hi j u hu => ?_⟩
      have hil : i < len0 := by omega
      obtain ⟨ci, _, _⟩ := hq i (by omega)
      rw [add_at ha] at ci
      have hfi : ((List.range len0).map f)[i] = f i := by simp
      rw [hfi] at hu
      match j with
      | 0 => simp [eR] at hu; subst hu; show W.cell? ⟨a.block, a.off + (i * 1 + 0), none⟩ = _; rw [Nat.mul_one, Nat.add_zero]; exact ci
      | j + 1 => simp [eR] at hu
    · rw [List.mem_map] at hp
      obtain ⟨i, hi, rfl⟩ := hp
      exact (hq i (by have := List.mem_range.1 hi; omega)).2.1
    · have hil : i < len0 := by simpa using hi
      have := (hq i (by omega)).2.2
      simpa using this
theorem weightsAll_mem {H : Type} {P : Program} {e : TypeId} : ∀ {l : List (DataW H)} {i : Nat} (hi : i < l.length) {n : Nat}, n ∈ l[i].weights P e → n ∈ DataW.weightsAll P e l
  | d :: l, 0, _, n, h => by simp only [DataW.weightsAll, List.mem_append]; exact .inl h
  | d :: l, i + 1, hi, n, h => by simp only [DataW.weightsAll, List.mem_append]; exact .inr (weightsAll_mem (by simpa using hi) (by simpa using h))
theorem sizedFares {H : Type} {ts : List TypeId} {ds : List (DataW H)} (hs : (DataW.weightsEach Try.prog ts ds).all (· ≤ reachBytes) = true) {j : Nat} (ht : ts[j]? = some 23) {d : DataW H} (hd : ds[j]? = some d) {rs : List Fa.Rw}
    (z : Fa.FarZ d rs) : rs.length * 24 ≤ 140737488351232 ∧ ∀ r ∈ rs, r.ls.length * 8 ≤ 140737488351232 := by
  have hr : reachBytes = 140737488351232 := rfl
  rcases z with rfl | ⟨el, sp, rfl, hz, hzr⟩
  · simp
  · have hq := sized_slice hs ht hd Try.underlying23
    have hb : Try.prog.bytesOf 37 = 24 := by kernel_rfl
    rw [hb, hr] at hq
    refine ⟨by omega, fun r hr2 => ?_⟩
    obtain ⟨i, hi, rfl⟩ := List.getElem_of_mem hr2
    have hil : i < el.length := by omega
    rcases hzr i hil hi with he | ⟨el2, sp2, e2, hz2⟩
    · rw [he]; simp
    · have hb2 : Try.prog.bytesOf 3 = 8 := by kernel_rfl
      have hw : (el2.length + sp2.length) * Try.prog.bytesOf 3 ∈ el[i].weights Try.prog 37 := by
        rw [e2]; simp [DataW.weights, Try.underlying37]
      have hw2 : (el2.length + sp2.length) * Try.prog.bytesOf 3 ∈ (DataW.slice el sp).weights Try.prog 23 := by
        have := weightsAll_mem hil hw
        simp only [DataW.weights, Try.underlying23, List.mem_cons, List.mem_append]
        exact .inr (.inl this)
      have := List.all_eq_true.1 hs _ (DataW.weights_mem_each ht hd _ hw2)
      rw [hb2, hr] at this
      have := of_decide_eq_true this
      omega
namespace Fa
theorem rest_end (v : Value) (rs : List Rw) (w : World) (h : RdF w v rs) (hz : rs.length * 24 ≤ 140737488351232 ∧ ∀ r ∈ rs, r.ls.length * 8 ≤ 140737488351232) : Calls Try.prog 8 #[v] w fun e w' => e = .returned (.bool true) ∧ Below w.heap.size w w' := rest_walk v rs w h hz.1 hz.2
end Fa
end Go.Proofs.Ytcppeligeodomaa
