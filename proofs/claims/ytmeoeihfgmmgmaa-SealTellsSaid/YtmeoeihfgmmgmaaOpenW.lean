/- Arguments that are four words, a key, a word: what they are. -/
import Derived.Test.YtmeoeihfgmmgmaaTagWalks4
import Derived.ProofKit
import Derived.OpenShut
import Derived.Lib.SmallJoins
import Derived.Laws.IdiomArrays
set_option linter.unusedVariables false
namespace Go.Proofs.Ytmeoeihfgmmgmaa
open Go.ChangeShapes Go.WideShapes Go.ChangeAt Go.RowKit Go.Joins Go.Deep
namespace Tg
theorem word_of {a : Int} (h : (Lit.int .u64 a).wf = true) : ∃ x : W64, a = wi x := by
  have := wf_u64 h
  refine ⟨BitVec.ofNat 64 a.toNat, ?_⟩
  unfold wi
  rw [BitVec.toNat_ofNat, Nat.mod_eq_of_lt (by omega)]; omega
end Tg
theorem openWords {H : Type} {enc : TypeId × Value → H} {W : World} {b0 : Nat} {v : Value} {d : DataW H} {p : List MemPlace} (hv : Value.okWide Try.prog W .any b0 59 v) (h : DataW.Trod enc Try.prog W 0 (fun _ => true) true 59 v d p) : ∃ x : Tg.S, v = Tg.aS x ∧ True := by
  have hv2 := hv
  simp only [Value.okWide, Try.underlying59] at hv2
  obtain ⟨cs, rfl, hsz, _⟩ := hv2
  have hC : Try.prog.cellsOf 59 = 4 := by kernel_rfl
  rw [hC] at hsz
  obtain ⟨l⟩ := cs
  match l, hsz with
  | [c0, c1, c2, c3], _ =>
    obtain ⟨fuel, hf⟩ := h
    obtain ⟨y0, y1, y2, y3, n, _, e0, e1, e2, e3⟩ := trod_array4 Try.underlying59 (by kernel_rfl) hf
    obtain ⟨z0, q0, _, f0⟩ := DataW.trod_int Try.underlying23 e0
    obtain ⟨z1, q1, _, f1⟩ := DataW.trod_int Try.underlying23 e1
    obtain ⟨z2, q2, _, f2⟩ := DataW.trod_int Try.underlying23 e2
    obtain ⟨z3, q3, _, f3⟩ := DataW.trod_int Try.underlying23 e3
    simp at q0 q1 q2 q3
    subst q0 q1 q2 q3
    obtain ⟨x0, rfl⟩ := Tg.word_of f0
    obtain ⟨x1, rfl⟩ := Tg.word_of f1
    obtain ⟨x2, rfl⟩ := Tg.word_of f2
    obtain ⟨x3, rfl⟩ := Tg.word_of f3
    exact ⟨⟨x0, x1, x2, x3⟩, rfl, trivial⟩
theorem openKey {H : Type} {enc : TypeId × Value → H} {W : World} {b0 : Nat} {v : Value} {d : DataW H} {p : List MemPlace} (hv : Value.okWide Try.prog W .any b0 25 v) (h : DataW.Trod enc Try.prog W 0 (fun _ => true) true 25 v d p) : ∃ x : Tg.W64 × Tg.W64, v = Tg.aK x.1 x.2 ∧ True := by
  obtain ⟨c0, c1, y0, y1, m, rfl, rfl, rfl, hy0, hy1⟩ := open_agg2 Try.underlying25 (by kernel_rfl) (by kernel_rfl) hv h
  obtain ⟨a, e0, _, wa⟩ := DataW.trod_int Try.underlying23 hy0
  obtain ⟨b, e1, _, wb⟩ := DataW.trod_int Try.underlying23 hy1
  simp at e0 e1
  subst e0 e1
  obtain ⟨x0, rfl⟩ := Tg.word_of wa
  obtain ⟨x1, rfl⟩ := Tg.word_of wb
  exact ⟨(x0, x1), rfl, trivial⟩
end Go.Proofs.Ytmeoeihfgmmgmaa
