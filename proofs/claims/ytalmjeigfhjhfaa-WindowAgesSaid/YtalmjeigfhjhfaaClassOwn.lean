/- Slices of classes that the call makes itself. -/
import Derived.Test.YtalmjeigfhjhfaaPersonPct
import Derived.Maps.AppendAt
import Derived.Deep.RegionHeld3
import Derived.Deep.AppendLies
import Derived.OwnWalk
set_option linter.unusedVariables false
namespace Go.Proofs.Ytalmjeigfhjhfaa
open Go.RowKit
namespace Dt
namespace Kc
abbrev OwnC (w : World) (base : Nat) (v : Value) (xs : List Cl) : Prop := w.ownsRow base 23 3 v xs.length (xs.flatMap eC)
theorem class_info : (Try.prog.info? 23).map (fun i => (i.zero, i.size, i.bytes)) = some (some (.agg #[.int .i64 0, .int .i64 0, .int .i64 0]), 3, 24) := by kernel_rfl
theorem flat_len (xs : List Cl) : (xs.flatMap eC).length = xs.length * 3 := by
  induction xs with
  | nil => rfl
  | cons o xs ih => simp [eC, ih]; omega
theorem flat_at (xs : List Cl) : ∀ (i : Nat) (h : i < xs.length), (xs.flatMap eC)[i * 3]? = some (.int .i64 xs[i].1) ∧ (xs.flatMap eC)[i * 3 + 1]? = some (.int .i64 xs[i].2.1) ∧ (xs.flatMap eC)[i * 3 + 2]? = some (.int .i64 xs[i].2.2) := by
  induction xs with
  | nil => intro i h; simp at h
  | cons o xs ih =>
    intro i h
    match i with
    | 0 => simp [eC]
    | i + 1 =>
      have := ih i (by simpa using h)
      have e1 : (i + 1) * 3 = i * 3 + 3 := by omega
      have e2 : (i + 1) * 3 + 1 = i * 3 + 1 + 3 := by omega
      have e3 : (i + 1) * 3 + 2 = i * 3 + 2 + 3 := by omega
      rw [e3, e2, e1]
      simp only [List.flatMap_cons, eC, List.cons_append, List.nil_append, List.getElem?_cons_succ, List.getElem_cons_succ]
      exact this
theorem OwnC.rd {w : World} {base : Nat} {v : Value} {xs : List Cl} (h : OwnC w base v xs) : Rd 3 eC w v xs := by
  refine Rd.of_own h rfl (fun i hi j u hu => ?_)
  obtain ⟨h1, h2, h3⟩ := flat_at xs i hi
  match j with
  | 0 => simp [eC] at hu; subst hu; exact ⟨by omega, h1⟩
  | 1 => simp [eC] at hu; subst hu; exact ⟨by omega, h2⟩
  | 2 => simp [eC] at hu; subst hu; exact ⟨by omega, h3⟩
  | j + 3 => simp [eC] at hu
theorem own0 (w : World) (base H : Nat) (hH : w.heap.size = H) (h : base ≤ H) : OwnC (w.alloc (.cells #[] 23)) base (.slice (some ⟨H, 0, none⟩) 0 0) [] := by
  subst hH
  refine ⟨rfl, .inr ⟨w.heap.size, 0, #[], rfl, h, ?_, Nat.le_refl _, by unfold maxLen; omega, rfl, rfl⟩⟩
  exact heap_alloc_new w _
theorem rdc1 (w : World) (p q r : Int) (g : Nat) (hg : g < w.heap.size) (h0 : w.cell? ⟨g, 0, none⟩ = some (.int .i64 p)) (h1 : w.cell? ⟨g, 1, none⟩ = some (.int .i64 q)) (h2 : w.cell? ⟨g, 2, none⟩ = some (.int .i64 r)) : Rd 3 eC w (.slice (some ⟨g, 0, none⟩) 1 1) [(p, q, r)] := by
  refine ⟨_, _, rfl, Nat.le_refl _, by unfold maxLen; omega, fun _ => ⟨g, 0, rfl, hg, ?_⟩⟩
  intro i hi j u hu
  have : i = 0 := by simpa using hi
  subst this
  match j with
  | 0 => simp [eC] at hu; subst hu; exact h0
  | 1 => simp [eC] at hu; subst hu; exact h1
  | 2 => simp [eC] at hu; subst hu; exact h2
  | j + 3 => simp [eC] at hu
theorem rd1a (w : World) (p q r : Int) (t : TypeId) (H : Nat) (hH : w.heap.size = H) : Rd 3 eC (w.alloc (.cells #[.int .i64 p, .int .i64 q, .int .i64 r] t)) (.slice (some ⟨H, 0, none⟩) 1 1) [(p, q, r)] := by
  subst hH
  refine rdc1 _ p q r _ (by simp) ?_ ?_ ?_
  · rw [World.cell?_alloc_mark]; rfl
  · rw [World.cell?_alloc_mark]; rfl
  · rw [World.cell?_alloc_mark]; rfl
theorem rd_dr {w : World} {v : Value} {xs : List Cl} (h : Rd 3 eC w v xs) : Rd 3 eC w.drew v xs := h.below (bn (br _) 1)
theorem far_rd {W w4 : World} {v : Value} {p q r : Int} (B : Nat) (hb : Below B W w4) (hfar : ∀ a : Addr, a.block < W.heap.size → v.ownBlock ≠ some a.block → w4.cell? a = W.cell? a) (H : Nat) (h : Rd 3 eC W (.slice (some ⟨H, 0, none⟩) 1 1) [(p, q, r)])
    (hne : v.ownBlock ≠ some H) : Rd 3 eC w4 (.slice (some ⟨H, 0, none⟩) 1 1) [(p, q, r)] := by
  obtain ⟨a, cap, e, h1, h2, h3⟩ := h
  injection e with e1 e2 e3
  subst e1 e3
  obtain ⟨b, off, e, hb', hc⟩ := h3 (by simp)
  injection e with e; injection e with e1 e2; subst e1 e2
  refine ⟨_, _, rfl, h1, h2, fun _ => ⟨H, 0, rfl, Nat.lt_of_lt_of_le hb' hb.size, fun i hi j u hu => ?_⟩⟩
  rw [hfar _ hb' hne]
  exact hc i hi j u hu
theorem run_app0 {w : World} (t ty : TypeId) (base : Nat) (e : TypeId) (i : TypeInfo) (size : Nat) (ht : Try.prog.underlying t = some (.slice e)) (hi : Try.prog.info? e = some i)
    (v : Value) (n : Nat) (xs : List Value) (hown : w.ownsRow base e size v n xs) (a : Option Addr) (c : Nat) :
    (Builtin.append_ #[t, t] ty #[v, .slice a 0 c]).run Try.prog w = .ok v w := by
  rcases hown.2 with ⟨rfl, rfl⟩ | ⟨g, cap, cur, rfl, _, _, hnc, _⟩
  · cases a <;> simp [Builtin.append_, run_underlying ht, sizeOf, typeInfo, hi, Builtin.lenOf, Builtin.firstCells, loadCells, loadCellsFrom]
  · cases a <;> simp [Builtin.append_, run_underlying ht, sizeOf, typeInfo, hi, Builtin.lenOf, Builtin.firstCells, hnc, storeCells, loadCells, loadCellsFrom]
theorem step_app {ops : Array Oper} {o : Oper} {a : Act} {K : Act → World → Prop} {Q : Exit → Act → World → Prop} {E : Prop} {w : World} (hgd : o.guard = none) (s x : Operand)
    (ho : o.op = .call { callee := .builtin .append, args := #[s, x], argTypes := #[24, 24] })
    (base : Nat) (v : Value) (ys : List Cl) (hs : a.eval s = v) (hown : OwnC w base v ys) (u : Value) (zs : List Cl) (hx : a.eval x = u) (hzs : Rd 3 eC w u zs) (hl : (ys.length + zs.length) * 24 ≤ 140737488355328) (hbase : base ≤ w.heap.size)
    (h : ∀ v' w', OwnC w' base v' (ys ++ zs) → Below base w w' → (∀ p : Addr, p.block < w.heap.size → v.ownBlock ≠ some p.block → w'.cell? p = w.cell? p) → K (a.put o.dst v') w') :
    if Region.wanted o (yielded ops a.tmps) = true then Oper.wp Try.prog o a w K Q else E := by
  obtain ⟨i0, hi0, hz0, hz1, hz2⟩ := info_parts class_info
  by_cases hz : 0 < zs.length
  · obtain ⟨ad, cap, rfl, h1, h2, h3⟩ := hzs
    obtain ⟨b, off, rfl, hb, hc⟩ := h3 hz
    refine step_append_lies w hgd s x _ ho base 23 i0 _ 3 24 Try.underlying24 hi0 hz0 hz1 hz2 rfl (by omega) v ys.length (ys.flatMap eC) hs hown ⟨b, off, none⟩ zs.length cap (zs.flatMap eC) hx (flat_len zs) (fun j y hy => ?_) (fun y hy => ?_) hz (by unfold maxLen; omega) (by omega) hbase w.heap.size rfl ?_
    · have hj : j < (zs.flatMap eC).length := by
        rcases Nat.lt_or_ge j (zs.flatMap eC).length with h | h
        · exact h
        · rw [List.getElem?_eq_none h] at hy; cases hy
      rw [flat_len] at hj
      obtain ⟨f1, f2, f3⟩ := flat_at zs (j / 3) (by omega)
      have ha : (⟨b, off, none⟩ : Addr).add j = ⟨b, off + j, none⟩ := by unfold Addr.add; split <;> simp_all
      rw [ha]
      rcases (show j = j / 3 * 3 ∨ j = j / 3 * 3 + 1 ∨ j = j / 3 * 3 + 2 by omega) with e | e | e
      · rw [e, f1] at hy; injection hy with hy; subst hy
        have := hc (j / 3) (by omega) 0 (.int .i64 zs[j / 3].1) (by simp [eC])
        rw [show off + (j / 3 * 3 + 0) = off + j by omega] at this
        exact this
      · rw [e, f2] at hy; injection hy with hy; subst hy
        have := hc (j / 3) (by omega) 1 (.int .i64 zs[j / 3].2.1) (by simp [eC])
        rw [show off + (j / 3 * 3 + 1) = off + j by omega] at this
        exact this
      · rw [e, f3] at hy; injection hy with hy; subst hy
        have := hc (j / 3) (by omega) 2 (.int .i64 zs[j / 3].2.2) (by simp [eC])
        rw [show off + (j / 3 * 3 + 2) = off + j by omega] at this
        exact this
    · obtain ⟨o, _, hy⟩ := List.mem_flatMap.1 hy
      simp [eC] at hy
      rcases hy with rfl | rfl | rfl <;> rfl
    · intro g cap' w' hown' hg hat hlt
      refine h _ w' ?_ ((Below.refl _ _).grown hg hbase (fun k hk => (hown.lt k hk).1)) (fun p hp hne => World.cell?_of_block (hg.block p.block hp (Ne.symm hne)))
      unfold OwnC
      rw [List.length_append, List.flatMap_append]
      exact hown'
  · have hzn : zs = [] := by cases zs with | nil => rfl | cons c l => simp at hz
    subst hzn
    obtain ⟨ad, cap, rfl, h1, h2, h3⟩ := hzs
    have hw : Region.wanted o (yielded ops a.tmps) = true := by simp [Region.wanted, hgd]
    rw [if_pos hw]
    have hrun := run_app0 24 o.type base 23 i0 3 Try.underlying24 hi0 v ys.length (ys.flatMap eC) hown ad cap
    have hk := h v w (by rw [List.append_nil]; exact hown) (Below.refl _ _) (fun p _ _ => rfl)
    unfold Oper.wp
    simp only [List.length_nil] at hx
    simp [execOp, ho, resolve, invoke, builtin, hs, hx, hrun, Result.andThen]
    exact hk
end Kc
end Dt
end Go.Proofs.Ytalmjeigfhjhfaa
