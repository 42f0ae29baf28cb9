/- Arguments that are classes, or slices of classes: what they are. -/
import Derived.Test.YtalmjeigfhjhfaaPersonTells
import Derived.Test.YtalmjeigfhjhfaaOpenD
import Derived.Deep.Slices
import Derived.Deep.Fields
import Derived.ChangeSame
set_option linter.unusedVariables false
namespace Go.Proofs.Ytalmjeigfhjhfaa
open Go.ChangeShapes Go.WideShapes Go.ChangeAt Go.RowKit Go.Joins Go.Deep
theorem openClass {H : Type} {enc : TypeId × Value → H} {W : World} {b0 : Nat} {v : Value} {d : DataW H} {p : List MemPlace} (hv : Value.okWide Try.prog W .any b0 23 v) (h : DataW.Trod enc Try.prog W 0 (fun _ => true) true 23 v d p) : ∃ x : Int × Int × Int, v = a3 x ∧ Wf3 x :=
  open3 Try.underlying23 rfl rfl rfl (by kernel_rfl) (by kernel_rfl) hv h
theorem addr_of {W : World} {a : Addr} {v : Value} (h : W.cell? a = some v) : a = ⟨a.block, a.off, none⟩ := by
  obtain ⟨b, o, s⟩ := a
  cases s with
  | none => rfl
  | some s =>
    unfold World.cell? at h
    simp at h
    split at h <;> simp at h
theorem add_at {a : Addr} (ha : a = ⟨a.block, a.off, none⟩) (k : Nat) : a.add k = ⟨a.block, a.off + k, none⟩ := by
  unfold Addr.add
  by_cases h0 : k = 0
  · rw [if_pos h0]; subst h0; simpa using ha
  · rw [if_neg h0]
theorem openClasses {H : Type} {enc : TypeId × Value → H} {W : World} {b0 : Nat} {v : Value} {d : DataW H} {p : List MemPlace} (hv0 : Value.okWide Try.prog W .any b0 24 v) (h : DataW.Trod enc Try.prog W 0 (fun _ => true) true 24 v d p) : ∃ xs : List Dt.Cl, Rd 3 Dt.eC W v xs := by
  obtain ⟨a0, len0, cap0, rfl⟩ := okWide_slice Try.underlying24 hv0
  obtain ⟨fuel, hf⟩ := h
  have hC : Try.prog.cellsOf 23 = 3 := by kernel_rfl
  have hCi : Try.prog.cellsOf 3 = 1 := by kernel_rfl
  rcases open_slice Try.underlying24 hf with ⟨h1, h2⟩ | ⟨a, len, cap, m, n, D, Pl, h1, h2, h3, h4, h5, h6, h7⟩
  · simp [Value.cells] at h1
    obtain ⟨rfl, rfl, rfl⟩ := h1
    exact ⟨[], Rd.nil W⟩
  · simp [Value.cells] at h1
    obtain ⟨rfl, rfl, rfl⟩ := h1
    rw [if_pos rfl] at h5
    have key : ∀ i : Nat, ∃ q : Int × Int × Int, i < m → W.cell? (a.add (i * 3)) = some (.int .i64 q.1) ∧ W.cell? (a.add (i * 3 + 1)) = some (.int .i64 q.2.1) ∧ W.cell? (a.add (i * 3 + 2)) = some (.int .i64 q.2.2) := by
      intro i
      by_cases him : i < m
      · obtain ⟨cs', hc, ht⟩ := h7 i him
        rw [hC] at hc
        obtain ⟨_, hcl, hat⟩ := World.cells?_some hc
        obtain ⟨ys, n', _, _, _, _, hg⟩ := DataW.trod_struct Try.underlying23 ht
        match cs', hcl with
        | [c0, c1, c2], _ =>
          have g0 := hg 0 _ rfl
          have g1 := hg 1 _ rfl
          have g2 := hg 2 _ rfl
          have hy : ∀ (k : Nat) (y : Option (DataW H × List MemPlace)) (c : Value), DataW.trod enc Try.prog W 0 (fun _ => true) true n' 3 [c] = y → y ≠ none → ∃ q : Int, c = .int .i64 q := fun k y c hh hne => by
            obtain ⟨z, rfl⟩ := Option.ne_none_iff_exists'.1 hne
            obtain ⟨q, e, _, _⟩ := DataW.trod_int Try.underlying3 hh
            simp at e
            exact ⟨q, e⟩
          have hlen : ys.length = 3 := by assumption
          have e0 : DataW.trod enc Try.prog W 0 (fun _ => true) true n' 3 [c0] = ys[0]? := by simpa [hCi] using g0
          have e1 : DataW.trod enc Try.prog W 0 (fun _ => true) true n' 3 [c1] = ys[1]? := by simpa [hCi] using g1
          have e2 : DataW.trod enc Try.prog W 0 (fun _ => true) true n' 3 [c2] = ys[2]? := by simpa [hCi] using g2
          obtain ⟨q0, rfl⟩ := hy 0 _ c0 e0 (by rw [List.getElem?_eq_getElem (by omega)]; simp)
          obtain ⟨q1, rfl⟩ := hy 1 _ c1 e1 (by rw [List.getElem?_eq_getElem (by omega)]; simp)
          obtain ⟨q2, rfl⟩ := hy 2 _ c2 e2 (by rw [List.getElem?_eq_getElem (by omega)]; simp)
          refine ⟨(q0, q1, q2), fun _ => ⟨?_, ?_, ?_⟩⟩
          · have := hat 0 (by omega); rw [Addr.add_zero'] at this; simpa using this
          · have := hat 1 (by omega); rw [Go.Deep.add_add] at this; simpa using this
          · have := hat 2 (by omega); rw [Go.Deep.add_add] at this; simpa using this
      · exact ⟨(0, 0, 0), fun x => absurd x him⟩
    obtain ⟨f, hq⟩ := Classical.axiomOfChoice key
    have hl : ((List.range len0).map f).length = len0 := by simp
    refine ⟨(List.range len0).map f, some a, cap0, by rw [hl], by omega, h4, fun hn => ?_⟩
    have c0 := (hq 0 (by omega)).1
    rw [Nat.zero_mul, Addr.add_zero'] at c0
    have ha := addr_of c0
    refine ⟨a.block, a.off, by rw [← ha], World.block_lt_of_cell? W a c0, fun i hi j u hu => ?_⟩
    have hil : i < len0 := by omega
    obtain ⟨ci, di, ei⟩ := hq i (by omega)
    rw [add_at ha] at ci di ei
    have hfi : ((List.range len0).map f)[i] = f i := by simp
    rw [hfi] at hu
    match j with
    | 0 => simp [Dt.eC] at hu; subst hu; exact ci
    | 1 => simp [Dt.eC] at hu; subst hu; exact di
    | 2 => simp [Dt.eC] at hu; subst hu; exact ei
    | j + 3 => simp [Dt.eC] at hu
namespace Dt
theorem ptells_end (b age n : Int) (c : Int × Int × Int) (v : Value) (xs : List Cl) (w : World) (_ : (Lit.int .i64 b).wf = true) (_ : (Lit.int .i64 age).wf = true) (_ : (Lit.int .i64 n).wf = true) (_ : Wf3 c) (h : Rd 3 eC w v xs) :
    Calls Try.prog 3 #[.int .i64 b, .int .i64 age, .int .i64 n, a3 c, v] w fun e w' => e = .returned (.bool true) ∧ Below w.heap.size w w' := ptells_walk b age n c v xs w h
end Dt
end Go.Proofs.Ytalmjeigfhjhfaa
