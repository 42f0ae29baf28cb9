/- Joined by shake.py: OpenV. -/
import Derived.Test.YtdfdjampodkpgaaDoorJSpans
import Derived.Test.YtdfdjampodkpgaaDoorJPass
import Derived.ProofKit
import Derived.OpenShut
import Derived.Deep.Slices
import Derived.Deep.Fields
import Derived.Lib.SmallJoins
import Derived.ChangeSame
set_option linter.unusedSimpArgs false
set_option linter.unusedVariables false

/-! OpenV -/
section
/- Arguments that are passes: what they are. -/
set_option linter.unusedSimpArgs false
set_option linter.unusedVariables false
namespace Go.Proofs.YtdfdjampodkpgaaDoor
open Go.ChangeShapes Go.WideShapes Go.ChangeAt Go.RowKit Go.Joins Go.Deep
namespace Pa
theorem addr_of {W : World} {a : Addr} {v : Value} (h : W.cell? a = some v) : a = ⟨a.block, a.off, none⟩ := by
  obtain ⟨b, o, s⟩ := a
  cases s with
  | none => rfl
  | some s =>
    unfold World.cell? at h
    simp at h
    split at h <;> simp at h
theorem add_at {a : Addr} (ha : a = ⟨a.block, a.off, none⟩) (k : Nat) : a.add k = ⟨a.block, a.off + k, none⟩ := by
  unfold Addr.add
  by_cases h0 : k = 0
  · rw [if_pos h0]; subst h0; simpa using ha
  · rw [if_neg h0]
set_option maxRecDepth 100000 in
theorem openSpansC {H : Type} {enc : TypeId × Value → H} {W : World} {n0 : Nat} {c : Value} {x : DataW H × List MemPlace} (h : DataW.trod enc Tryd.prog W 0 (fun _ => true) true n0 23 [c] = some x) : ∃ xs : List Sn.Sp, RdE Sn.elS W c xs := by
  have hC : Tryd.prog.cellsOf 67 = 2 := by kernel_rfl
  have hCi : Tryd.prog.cellsOf 3 = 1 := by kernel_rfl
  rcases open_slice Tryd.underlying23 h with ⟨h1, h2⟩ | ⟨a, len, cap, m, n, D, Pl, h1, h2, h3, h4, h5, h6, h7⟩
  · simp at h1
    subst h1
    exact ⟨[], none, 0, rfl, Nat.le_refl _, Nat.zero_le _, fun h => by simp at h⟩
  · simp at h1
    subst h1
    rw [if_pos rfl] at h5
    have key : ∀ i : Nat, ∃ q : Int × Int, i < m → W.cell? (a.add (i * 2)) = some (.int .i64 q.1) ∧ W.cell? (a.add (i * 2 + 1)) = some (.int .i64 q.2) := by
      intro i
      by_cases him : i < m
      · obtain ⟨cs', hc, ht⟩ := h7 i him
        rw [hC] at hc
        obtain ⟨_, hcl, hat⟩ := World.cells?_some hc
        obtain ⟨ys, n', _, _, _, _, hg⟩ := DataW.trod_struct Tryd.underlying67 ht
        match cs', hcl with
        | [c0, c1], _ =>
          have g0 := hg 0 _ rfl
          have g1 := hg 1 _ rfl
          have hy : ∀ (k : Nat) (y : Option (DataW H × List MemPlace)) (c : Value), DataW.trod enc Tryd.prog W 0 (fun _ => true) true n' 3 [c] = y → y ≠ none → ∃ q : Int, c = .int .i64 q := fun k y c hh hne => by
            obtain ⟨z, rfl⟩ := Option.ne_none_iff_exists'.1 hne
            obtain ⟨q, e, _, _⟩ := DataW.trod_int Tryd.underlying3 hh
            simp at e
            exact ⟨q, e⟩
          have hlen : ys.length = 2 := by assumption
          have e0 : DataW.trod enc Tryd.prog W 0 (fun _ => true) true n' 3 [c0] = ys[0]? := by simpa [hCi] using g0
          have e1 : DataW.trod enc Tryd.prog W 0 (fun _ => true) true n' 3 [c1] = ys[1]? := by simpa [hCi] using g1
          obtain ⟨q0, rfl⟩ := hy 0 _ c0 e0 (by rw [List.getElem?_eq_getElem (by omega)]; simp)
          obtain ⟨q1, rfl⟩ := hy 1 _ c1 e1 (by rw [List.getElem?_eq_getElem (by omega)]; simp)
          refine ⟨(q0, q1), fun _ => ⟨?_, ?_⟩⟩
          · have := hat 0 (by omega); rw [Addr.add_zero'] at this; simpa using this
          · have := hat 1 (by omega); rw [Go.Deep.add_add] at this; simpa using this
      · exact ⟨(0, 0), fun x => absurd x him⟩
    obtain ⟨f, hq⟩ := Classical.axiomOfChoice key
    have hl : ((List.range len).map f).length = len := by simp
    refine ⟨(List.range len).map f, some a, cap, by rw [hl], by omega, h4, fun hn => ?_⟩
    have c0 := (hq 0 (by omega)).1
    rw [Nat.zero_mul, Addr.add_zero'] at c0
    have ha := addr_of c0
    refine ⟨a.block, a.off, by rw [← ha], World.block_lt_of_cell? W a c0, fun i hi j u hu => ?_⟩
    have hil : i < len := by omega
    obtain ⟨ci, di⟩ := hq i (by omega)
    rw [add_at ha] at ci di
    have hfi : ((List.range len).map f)[i] = f i := by simp
    rw [hfi] at hu
    match j with
    | 0 => simp [Sn.eS] at hu; subst hu; exact ci
    | 1 => simp [Sn.eS] at hu; subst hu; exact di
    | j + 2 => simp [Sn.eS] at hu
/-- a pass that came in -/
def RdPass (W : World) (v : Value) (x : Ps × Value × List Sn.Sp) : Prop := v = aP x.1 x.2.1 ∧ RdE Sn.elS W x.2.1 x.2.2
theorem open_i {H : Type} {enc : TypeId × Value → H} {W : World} {n' : Nat} {c : Value} {z : DataW H × List MemPlace} (e : DataW.trod enc Tryd.prog W 0 (fun _ => true) true n' 3 [c] = some z) : ∃ q : Int, c = .int .i64 q := by
  obtain ⟨q, e, _⟩ := DataW.trod_int Tryd.underlying3 e
  simp at e
  exact ⟨q, e⟩
end Pa
set_option maxRecDepth 100000 in
open Pa in
theorem openPass {H : Type} {enc : TypeId × Value → H} {W : World} {b0 : Nat} {v : Value} {d : DataW H} {p : List MemPlace} (hv : Value.okWide Tryd.prog W .any b0 25 v) (h : DataW.Trod enc Tryd.prog W 0 (fun _ => true) true 25 v d p) : ∃ x : Pa.Ps × Value × List Sn.Sp, Pa.RdPass W v x := by
  have hv2 := hv
  simp only [Value.okWide, Tryd.underlying25] at hv2
  obtain ⟨cs, rfl, hsz, _⟩ := hv2
  have hC : Tryd.prog.cellsOf 25 = 6 := by kernel_rfl
  have hC1 : Tryd.prog.cellsOf 3 = 1 := by kernel_rfl
  have hC2 : Tryd.prog.cellsOf 23 = 1 := by kernel_rfl
  rw [hC] at hsz
  obtain ⟨l⟩ := cs
  match l, hsz with
  | [c0, c1, c2, c3, c4, c5], _ =>
    obtain ⟨fuel, hf⟩ := h
    obtain ⟨ys, n', _, _, _, hlen, hg⟩ := DataW.trod_struct Tryd.underlying25 hf
    have g0 := hg 0 _ rfl
    have g1 := hg 1 _ rfl
    have g2 := hg 2 _ rfl
    have g3 := hg 3 _ rfl
    have g4 := hg 4 _ rfl
    have g5 := hg 5 _ rfl
    have hl2 : ys.length = 6 := hlen
    rw [List.getElem?_eq_getElem (by omega)] at g0 g1 g2 g3 g4 g5
    obtain ⟨q0, rfl⟩ := open_i (c := c0) (z := ys[0]) (by simpa [hC1, hC2, Value.cells] using g0)
    obtain ⟨q1, rfl⟩ := open_i (c := c1) (z := ys[1]) (by simpa [hC1, hC2, Value.cells] using g1)
    obtain ⟨q2, rfl⟩ := open_i (c := c2) (z := ys[2]) (by simpa [hC1, hC2, Value.cells] using g2)
    obtain ⟨q3, rfl⟩ := open_i (c := c3) (z := ys[3]) (by simpa [hC1, hC2, Value.cells] using g3)
    obtain ⟨q4, rfl⟩ := open_i (c := c4) (z := ys[4]) (by simpa [hC1, hC2, Value.cells] using g4)
    obtain ⟨ls, hr⟩ := openSpansC (c := c5) (x := ys[5]) (by simpa [hC1, hC2, Value.cells] using g5)
    exact ⟨(⟨q0, q1, q2, q3, q4⟩, c5, ls), rfl, hr⟩
def aTm (x : Int × Int) : Value := .agg #[.int .i64 x.1, .int .i64 x.2]
def WfT (x : Int × Int) : Prop := (Lit.int .i64 x.1).wf = true ∧ (Lit.int .i64 x.2).wf = true
end Go.Proofs.YtdfdjampodkpgaaDoor
end
