/- Slices as lists: the first ones, the last ones. -/
import Derived.Test.YtkanlfgomfibdaaDoorEl
set_option linter.unusedSimpArgs false
set_option linter.unusedVariables false
namespace Go.Proofs.YtkanlfgomfibdaaDoor
open Go.RowKit
theorem rd_pre {α : Type} {k : Nat} {enc : α → List Value} {w : World} {a : Option Addr} {n cap : Nat} {xs : List α} (h : Rd k enc w (.slice a n cap) xs) (m : Nat) (hm : m ≤ xs.length) : Rd k enc w (.slice a m cap) (xs.take m) := by
  obtain ⟨a', cap', e, h1, h2, h3⟩ := h
  injection e with e1 e2 e3
  subst e1 e2 e3
  have hl : (xs.take m).length = m := by simp; omega
  refine ⟨a, cap, by rw [hl], by omega, h2, fun hn => ?_⟩
  obtain ⟨b, off, e, hb, hc⟩ := h3 (by omega)
  refine ⟨b, off, e, hb, fun i hi j u hu => ?_⟩
  rw [List.getElem_take] at hu
  exact hc i (by omega) j u hu
/-- an append under a guard that says yes -/
theorem appE_g {α : Type} (E : El α) {ops : Array Oper} {rest : List Oper} {o : Oper} {a : Act} {Q : Exit → Act → World → Prop} {w : World} (hw : Region.wanted o (yielded ops a.tmps) = true) (s x : Operand)
    (ho : o.op = .call { callee := .builtin .append, args := #[s, x], argTypes := #[E.ts, E.ts] })
    (base : Nat) (v : Value) (ys : List α) (hs : a.eval s = v) (hown : ROwn E w base v ys) (u : Value) (zs : List α) (hx : a.eval x = u) (hzs : RdE E w u zs) (hl : ys.length + zs.length ≤ maxLen) (hlb : (ys.length + zs.length) * E.bytes ≤ 140737488355328) (hbase : base ≤ w.heap.size)
    (h : ∀ v' w', ROwn E w' base v' (ys ++ zs) → Below base w w' → (∀ k : Nat, k < w.heap.size → v.ownBlock ≠ some k → w'.heap[k]? = w.heap[k]?) → wpList Tryd.prog ops Q rest (a.put o.dst v') w') : wpList Tryd.prog ops Q (o :: rest) a w := by
  have := stepE_app (ops := ops) (o := { o with guard := none }) (K := wpList Tryd.prog ops Q rest) (Q := Q) (F := True) E rfl s x ho base v ys hs hown u zs hx hzs hl hlb hbase h
  rw [if_pos (by simp [Region.wanted])] at this
  unfold wpList
  rw [if_pos hw]
  exact .inl this
end Go.Proofs.YtkanlfgomfibdaaDoor
