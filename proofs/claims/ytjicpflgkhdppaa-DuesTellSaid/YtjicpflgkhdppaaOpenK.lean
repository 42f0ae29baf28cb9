/- Arguments that are calendars: what they are. -/
import Derived.Test.YtjicpflgkhdppaaRuleEl
import Derived.ProofKit
import Derived.OpenShut
import Derived.ChangeSlices
import Derived.Deep.Slices
import Derived.Deep.Fields
import Derived.Lib.SmallJoins
import Derived.Laws.IdiomArrays
import Derived.ChangeSame
set_option linter.unusedSimpArgs false
set_option linter.unusedVariables false
namespace Go.Proofs.Ytjicpflgkhdppaa
open Go.ChangeShapes Go.WideShapes Go.ChangeAt Go.RowKit Go.Joins Go.Deep
namespace Wk
theorem addr_of {W : World} {a : Addr} {v : Value} (h : W.cell? a = some v) : a = ⟨a.block, a.off, none⟩ := by
  obtain ⟨b, o, s⟩ := a
  cases s with
  | none => rfl
  | some s =>
    unfold World.cell? at h
    simp at h
    split at h <;> simp at h
theorem add_at {a : Addr} (ha : a = ⟨a.block, a.off, none⟩) (k : Nat) : a.add k = ⟨a.block, a.off + k, none⟩ := by
  unfold Addr.add
  by_cases h0 : k = 0
  · rw [if_pos h0]; subst h0; simpa using ha
  · rw [if_neg h0]
theorem open_int {H : Type} {enc : TypeId × Value → H} {W : World} {n' : Nat} {c : Value} {ys : List (DataW H × List MemPlace)} {k : Nat} (hk : k < ys.length) (e : DataW.trod enc Try.prog W 0 (fun _ => true) true n' 3 [c] = ys[k]?) : ∃ q : Int, c = .int .i64 q := by
  rw [List.getElem?_eq_getElem hk] at e
  obtain ⟨q, e, _, _⟩ := DataW.trod_int Try.underlying3 e
  simp at e
  exact ⟨q, e⟩
set_option maxRecDepth 100000 in
/-- rules, by the cell that holds their slice -/
theorem openRulesC {H : Type} {enc : TypeId × Value → H} {W : World} {n0 : Nat} {c : Value} {x : DataW H × List MemPlace} (h : DataW.trod enc Try.prog W 0 (fun _ => true) true n0 23 [c] = some x) : ∃ ls : List Rl, RdE elRl W c ls := by
  have hC : Try.prog.cellsOf 72 = 4 := by kernel_rfl
  have hCi : Try.prog.cellsOf 3 = 1 := by kernel_rfl
  rcases open_slice Try.underlying23 h with ⟨h1, h2⟩ | ⟨a, len0, cap0, m, n, D, Pl, h1, h2, h3, h4, h5, h6, h7⟩
  · simp at h1
    subst h1
    exact ⟨[], Rd.nil W⟩
  · simp at h1
    subst h1
    rw [if_pos rfl] at h5
    have key : ∀ i : Nat, ∃ q : Rl, i < m → W.cell? (a.add (i * 4)) = some (.int .i64 q.1) ∧ W.cell? (a.add (i * 4 + 1)) = some (.int .i64 q.2.1) ∧ W.cell? (a.add (i * 4 + 2)) = some (.int .i64 q.2.2.1) ∧ W.cell? (a.add (i * 4 + 3)) = some (.int .i64 q.2.2.2) := by
      intro i
      by_cases him : i < m
      · obtain ⟨cs', hc, ht⟩ := h7 i him
        rw [hC] at hc
        obtain ⟨_, hcl, hat⟩ := World.cells?_some hc
        obtain ⟨ys, n', _, _, _, _, hg⟩ := DataW.trod_struct Try.underlying72 ht
        match cs', hcl with
        | [c0, c1, c2, c3], _ =>
          have g0 := hg 0 _ rfl
          have g1 := hg 1 _ rfl
          have g2 := hg 2 _ rfl
          have g3 := hg 3 _ rfl
          have hlen : ys.length = 4 := by assumption
          obtain ⟨q0, rfl⟩ := open_int (k := 0) (ys := ys) (by omega) (by simpa [hCi] using g0)
          obtain ⟨q1, rfl⟩ := open_int (k := 1) (ys := ys) (by omega) (by simpa [hCi] using g1)
          obtain ⟨q2, rfl⟩ := open_int (k := 2) (ys := ys) (by omega) (by simpa [hCi] using g2)
          obtain ⟨q3, rfl⟩ := open_int (k := 3) (ys := ys) (by omega) (by simpa [hCi] using g3)
          refine ⟨(q0, q1, q2, q3), fun _ => ⟨?_, ?_, ?_, ?_⟩⟩
          · have := hat 0 (by omega); rw [Addr.add_zero'] at this; simpa using this
          · have := hat 1 (by omega); rw [Go.Deep.add_add] at this; simpa using this
          · have := hat 2 (by omega); rw [Go.Deep.add_add] at this; simpa using this
          · have := hat 3 (by omega); rw [Go.Deep.add_add] at this; simpa using this
      · exact ⟨(0, 0, 0, 0), fun x => absurd x him⟩
    obtain ⟨f, hq⟩ := Classical.axiomOfChoice key
    have hl : ((List.range len0).map f).length = len0 := by simp
    refine ⟨(List.range len0).map f, some a, cap0, by rw [hl], by omega, h4, fun hn => ?_⟩
    have c0 := (hq 0 (by omega)).1
    rw [Nat.zero_mul, Addr.add_zero'] at c0
    have ha := addr_of c0
    refine ⟨a.block, a.off, by rw [← ha], World.block_lt_of_cell? W a c0, fun i hi j u hu => ?_⟩
    have hil : i < len0 := by omega
    obtain ⟨ci, di, ei, fi⟩ := hq i (by omega)
    rw [add_at ha] at ci di ei fi
    have hfi : ((List.range len0).map f)[i] = f i := by simp
    rw [hfi] at hu
    match j with
    | 0 => simp [eRl] at hu; subst hu; exact ci
    | 1 => simp [eRl] at hu; subst hu; exact di
    | 2 => simp [eRl] at hu; subst hu; exact ei
    | 3 => simp [eRl] at hu; subst hu; exact fi
    | j + 4 => simp [eRl] at hu
/-- a calendar that came in -/
def RdCal (W : World) (v : Value) (x : List Bool × Value × List Rl) : Prop := v = cV x.1 x.2.1 ∧ x.1.length = 7 ∧ RdE elRl W x.2.1 x.2.2
theorem open_b {H : Type} {enc : TypeId × Value → H} {W : World} {n' : Nat} {c : Value} {z : DataW H × List MemPlace} (e : DataW.trod enc Try.prog W 0 (fun _ => true) true n' 4 [c] = some z) : ∃ q : Bool, c = .bool q := by
  obtain ⟨q, e, _⟩ := DataW.trod_bool Try.underlying4 e
  simp at e
  exact ⟨q, e⟩
end Wk
set_option maxRecDepth 100000 in
open Wk in
theorem openCalendar {H : Type} {enc : TypeId × Value → H} {W : World} {b0 : Nat} {v : Value} {d : DataW H} {p : List MemPlace} (hv : Value.okWide Try.prog W .any b0 25 v) (h : DataW.Trod enc Try.prog W 0 (fun _ => true) true 25 v d p) : ∃ x : List Bool × Value × List Wk.Rl, Wk.RdCal W v x := by
  have hv2 := hv
  simp only [Value.okWide, Try.underlying25] at hv2
  obtain ⟨cs, rfl, hsz, _⟩ := hv2
  have hC : Try.prog.cellsOf 25 = 8 := by kernel_rfl
  have hC1 : Try.prog.cellsOf 22 = 7 := by kernel_rfl
  have hC2 : Try.prog.cellsOf 23 = 1 := by kernel_rfl
  have hC3 : Try.prog.cellsOf 4 = 1 := by kernel_rfl
  rw [hC] at hsz
  obtain ⟨l⟩ := cs
  match l, hsz with
  | [c0, c1, c2, c3, c4, c5, c6, c7], _ =>
    obtain ⟨fuel, hf⟩ := h
    obtain ⟨ys, n', _, _, _, hlen, hg⟩ := DataW.trod_struct Try.underlying25 hf
    have g0 := hg 0 _ rfl
    have g1 := hg 1 _ rfl
    have hl2 : ys.length = 2 := hlen
    rw [List.getElem?_eq_getElem (by omega)] at g0 g1
    have g1' : DataW.trod enc Try.prog W 0 (fun _ => true) true n' 23 [c7] = some ys[1] := by simpa [hC1, hC2, Value.cells] using g1
    have g0' : DataW.trod enc Try.prog W 0 (fun _ => true) true n' 22 [c0, c1, c2, c3, c4, c5, c6] = some ys[0] := by simpa [hC1, hC2, Value.cells] using g0
    obtain ⟨ls, hr⟩ := openRulesC g1'
    obtain ⟨xs, n2, _, _, _, hxl, hh⟩ := DataW.trod_array Try.underlying22 g0'
    rw [hC3] at hh
    have t0 := hh 0 (by decide); have t1 := hh 1 (by decide); have t2 := hh 2 (by decide); have t3 := hh 3 (by decide); have t4 := hh 4 (by decide); have t5 := hh 5 (by decide); have t6 := hh 6 (by decide)
    rw [List.getElem?_eq_getElem (by omega)] at t0 t1 t2 t3 t4 t5 t6
    obtain ⟨b0, rfl⟩ := open_b (c := c0) t0
    obtain ⟨b1, rfl⟩ := open_b (c := c1) t1
    obtain ⟨b2, rfl⟩ := open_b (c := c2) t2
    obtain ⟨b3, rfl⟩ := open_b (c := c3) t3
    obtain ⟨b4, rfl⟩ := open_b (c := c4) t4
    obtain ⟨b5, rfl⟩ := open_b (c := c5) t5
    obtain ⟨b6, rfl⟩ := open_b (c := c6) t6
    exact ⟨([b0, b1, b2, b3, b4, b5, b6], c7, ls), rfl, rfl, hr⟩
end Go.Proofs.Ytjicpflgkhdppaa
