/- Slices of epochs that the call makes itself. -/
import Derived.Test.YtmeoeihfgmmgmaaProg
import Derived.Test.YtmeoeihfgmmgmaaRd
import Derived.Test.YtmeoeihfgmmgmaaBase2
import Derived.Test.YtmeoeihfgmmgmaaRingPlain
import Derived.Maps.AppendAt
import Derived.Deep.RegionHeld3
import Derived.Deep.AppendLies
import Derived.OwnWalk
set_option linter.unusedVariables false
namespace Go.Proofs.Ytmeoeihfgmmgmaa
open Go.RowKit
namespace Rg
open Tg
def eE (x : Ep) : List Value := [.int .i64 x.1, .int .u64 (wi x.2.1), .int .u64 (wi x.2.2)]
theorem eE_at {w : World} {b off : Nat} {xs : List Ep} (h : ∀ (i : Nat) (h : i < xs.length) (j : Nat) (u : Value), (eE xs[i])[j]? = some u → w.cell? ⟨b, off + (i * 3 + j), none⟩ = some u)
    (i : Nat) (hi : i < xs.length) : w.cell? ⟨b, off + i * 3, none⟩ = some (.int .i64 xs[i].1) ∧ w.cell? ⟨b, off + i * 3 + 1, none⟩ = some (.int .u64 (wi xs[i].2.1)) ∧ w.cell? ⟨b, off + i * 3 + 2, none⟩ = some (.int .u64 (wi xs[i].2.2)) := ⟨h i hi 0 _ rfl, h i hi 1 _ rfl, h i hi 2 _ rfl⟩
abbrev OwnE (w : World) (base : Nat) (v : Value) (xs : List Ep) : Prop := w.ownsRow base 40 3 v xs.length (xs.flatMap eE)
theorem epoch_info : (Try.prog.info? 40).map (fun i => (i.zero, i.size, i.bytes)) = some (some (.agg #[.int .i64 0, .int .u64 0, .int .u64 0]), 3, 24) := by kernel_rfl
theorem flat_len (xs : List Ep) : (xs.flatMap eE).length = xs.length * 3 := by
  induction xs with
  | nil => rfl
  | cons o xs ih => simp [eE, ih]; omega
theorem flat_at (xs : List Ep) : ∀ (i : Nat) (h : i < xs.length), (xs.flatMap eE)[i * 3]? = some (.int .i64 xs[i].1) ∧ (xs.flatMap eE)[i * 3 + 1]? = some (.int .u64 (wi xs[i].2.1)) ∧ (xs.flatMap eE)[i * 3 + 2]? = some (.int .u64 (wi xs[i].2.2)) := by
  induction xs with
  | nil => intro i h; simp at h
  | cons o xs ih =>
    intro i h
    match i with
    | 0 => simp [eE]
    | i + 1 =>
      have := ih i (by simpa using h)
      have e1 : (i + 1) * 3 = i * 3 + 3 := by omega
      have e2 : (i + 1) * 3 + 1 = i * 3 + 1 + 3 := by omega
      have e3 : (i + 1) * 3 + 2 = i * 3 + 2 + 3 := by omega
      rw [e3, e2, e1]
      simp only [List.flatMap_cons, eE, List.cons_append, List.nil_append, List.getElem?_cons_succ, List.getElem_cons_succ]
      exact this
theorem OwnE.rd {w : World} {base : Nat} {v : Value} {xs : List Ep} (h : OwnE w base v xs) : Rd 3 eE w v xs := by
  refine Rd.of_own h rfl (fun i hi j u hu => ?_)
  obtain ⟨h1, h2, h3⟩ := flat_at xs i hi
  match j with
  | 0 => simp [eE] at hu; subst hu; exact ⟨by omega, h1⟩
  | 1 => simp [eE] at hu; subst hu; exact ⟨by omega, h2⟩
  | 2 => simp [eE] at hu; subst hu; exact ⟨by omega, h3⟩
  | j + 3 => simp [eE] at hu
theorem own0 (w : World) (base H : Nat) (hH : w.heap.size = H) (h : base ≤ H) : OwnE (w.alloc (.cells #[] 40)) base (.slice (some ⟨H, 0, none⟩) 0 0) [] := by
  subst hH
  refine ⟨rfl, .inr ⟨w.heap.size, 0, #[], rfl, h, ?_, Nat.le_refl _, by unfold maxLen; omega, rfl, rfl⟩⟩
  exact heap_alloc_new w _
theorem rdc1 (w : World) (p : Int) (q r : W64) (g : Nat) (hg : g < w.heap.size) (h0 : w.cell? ⟨g, 0, none⟩ = some (.int .i64 p)) (h1 : w.cell? ⟨g, 1, none⟩ = some (.int .u64 (wi q))) (h2 : w.cell? ⟨g, 2, none⟩ = some (.int .u64 (wi r))) : Rd 3 eE w (.slice (some ⟨g, 0, none⟩) 1 1) [(p, q, r)] := by
  refine ⟨_, _, rfl, Nat.le_refl _, by unfold maxLen; omega, fun _ => ⟨g, 0, rfl, hg, ?_⟩⟩
  intro i hi j u hu
  have : i = 0 := by simpa using hi
  subst this
  match j with
  | 0 => simp [eE] at hu; subst hu; exact h0
  | 1 => simp [eE] at hu; subst hu; exact h1
  | 2 => simp [eE] at hu; subst hu; exact h2
  | j + 3 => simp [eE] at hu
theorem rd1a (w : World) (p : Int) (q r : W64) (t : TypeId) (H : Nat) (hH : w.heap.size = H) : Rd 3 eE (w.alloc (.cells #[.int .i64 p, .int .u64 (wi q), .int .u64 (wi r)] t)) (.slice (some ⟨H, 0, none⟩) 1 1) [(p, q, r)] := by
  subst hH
  refine rdc1 _ p q r _ (by simp) ?_ ?_ ?_
  · rw [World.cell?_alloc_mark]; rfl
  · rw [World.cell?_alloc_mark]; rfl
  · rw [World.cell?_alloc_mark]; rfl
theorem rd_dr {w : World} {v : Value} {xs : List Ep} (h : Rd 3 eE w v xs) : Rd 3 eE w.drew v xs := h.below (bn (br _) 1)
theorem far_rd {W w4 : World} {v : Value} {p : Int} {q r : W64} (B : Nat) (hb : Below B W w4) (hfar : ∀ a : Addr, a.block < W.heap.size → v.ownBlock ≠ some a.block → w4.cell? a = W.cell? a) (H : Nat) (h : Rd 3 eE W (.slice (some ⟨H, 0, none⟩) 1 1) [(p, q, r)])
    (hne : v.ownBlock ≠ some H) : Rd 3 eE w4 (.slice (some ⟨H, 0, none⟩) 1 1) [(p, q, r)] := by
  obtain ⟨a, cap, e, h1, h2, h3⟩ := h
  injection e with e1 e2 e3
  subst e1 e3
  obtain ⟨b, off, e, hb', hc⟩ := h3 (by simp)
  injection e with e; injection e with e1 e2; subst e1 e2
  refine ⟨_, _, rfl, h1, h2, fun _ => ⟨H, 0, rfl, Nat.lt_of_lt_of_le hb' hb.size, fun i hi j u hu => ?_⟩⟩
  rw [hfar _ hb' hne]
  exact hc i hi j u hu
theorem run_app0 {w : World} (t ty : TypeId) (base : Nat) (e : TypeId) (i : TypeInfo) (size : Nat) (ht : Try.prog.underlying t = some (.slice e)) (hi : Try.prog.info? e = some i)
    (v : Value) (n : Nat) (xs : List Value) (hown : w.ownsRow base e size v n xs) (a : Option Addr) (c : Nat) :
    (Builtin.append_ #[t, t] ty #[v, .slice a 0 c]).run Try.prog w = .ok v w := by
  rcases hown.2 with ⟨rfl, rfl⟩ | ⟨g, cap, cur, rfl, _, _, hnc, _⟩
  · cases a <;> simp [Builtin.append_, run_underlying ht, sizeOf, typeInfo, hi, Builtin.lenOf, Builtin.firstCells, loadCells, loadCellsFrom]
  · cases a <;> simp [Builtin.append_, run_underlying ht, sizeOf, typeInfo, hi, Builtin.lenOf, Builtin.firstCells, hnc, storeCells, loadCells, loadCellsFrom]
theorem step_app {ops : Array Oper} {o : Oper} {a : Act} {K : Act → World → Prop} {Q : Exit → Act → World → Prop} {E : Prop} {w : World} (hgd : o.guard = none) (s x : Operand)
    (ho : o.op = .call { callee := .builtin .append, args := #[s, x], argTypes := #[22, 22] })
    (base : Nat) (v : Value) (ys : List Ep) (hs : a.eval s = v) (hown : OwnE w base v ys) (u : Value) (zs : List Ep) (hx : a.eval x = u) (hzs : Rd 3 eE w u zs) (hl : (ys.length + zs.length) * 24 ≤ 140737488355328) (hbase : base ≤ w.heap.size)
    (h : ∀ v' w', OwnE w' base v' (ys ++ zs) → Below base w w' → (∀ p : Addr, p.block < w.heap.size → v.ownBlock ≠ some p.block → w'.cell? p = w.cell? p) → K (a.put o.dst v') w') :
    if Region.wanted o (yielded ops a.tmps) = true then Oper.wp Try.prog o a w K Q else E := by
  obtain ⟨i0, hi0, hz0, hz1, hz2⟩ := info_parts epoch_info
  by_cases hz : 0 < zs.length
  · obtain ⟨ad, cap, rfl, h1, h2, h3⟩ := hzs
    obtain ⟨b, off, rfl, hb, hc⟩ := h3 hz
    refine step_append_lies w hgd s x _ ho base 40 i0 _ 3 24 Try.underlying22 hi0 hz0 hz1 hz2 rfl (by omega) v ys.length (ys.flatMap eE) hs hown ⟨b, off, none⟩ zs.length cap (zs.flatMap eE) hx (flat_len zs) (fun j y hy => ?_) (fun y hy => ?_) hz (by unfold maxLen; omega) (by omega) hbase w.heap.size rfl ?_
    · have hj : j < (zs.flatMap eE).length := by
        rcases Nat.lt_or_ge j (zs.flatMap eE).length with h | h
        · exact h
        · rw [List.getElem?_eq_none h] at hy; cases hy
      rw [flat_len] at hj
      obtain ⟨f1, f2, f3⟩ := flat_at zs (j / 3) (by omega)
      have ha : (⟨b, off, none⟩ : Addr).add j = ⟨b, off + j, none⟩ := by unfold Addr.add; split <;> simp_all
      rw [ha]
      rcases (show j = j / 3 * 3 ∨ j = j / 3 * 3 + 1 ∨ j = j / 3 * 3 + 2 by omega) with e | e | e
      · rw [e, f1] at hy; injection hy with hy; subst hy
        have := hc (j / 3) (by omega) 0 (.int .i64 zs[j / 3].1) (by simp [eE])
        rw [show off + (j / 3 * 3 + 0) = off + j by omega] at this
        exact this
      · rw [e, f2] at hy; injection hy with hy; subst hy
        have := hc (j / 3) (by omega) 1 (.int .u64 (wi zs[j / 3].2.1)) (by simp [eE])
        rw [show off + (j / 3 * 3 + 1) = off + j by omega] at this
        exact this
      · rw [e, f3] at hy; injection hy with hy; subst hy
        have := hc (j / 3) (by omega) 2 (.int .u64 (wi zs[j / 3].2.2)) (by simp [eE])
        rw [show off + (j / 3 * 3 + 2) = off + j by omega] at this
        exact this
    · obtain ⟨o, _, hy⟩ := List.mem_flatMap.1 hy
      simp [eE] at hy
      rcases hy with rfl | rfl | rfl <;> rfl
    · intro g cap' w' hown' hg hat hlt
      refine h _ w' ?_ ((Below.refl _ _).grown hg hbase (fun k hk => (hown.lt k hk).1)) (fun p hp hne => World.cell?_of_block (hg.block p.block hp (Ne.symm hne)))
      unfold OwnE
      rw [List.length_append, List.flatMap_append]
      exact hown'
  · have hzn : zs = [] := by cases zs with | nil => rfl | cons c l => simp at hz
    subst hzn
    obtain ⟨ad, cap, rfl, h1, h2, h3⟩ := hzs
    have hw : Region.wanted o (yielded ops a.tmps) = true := by simp [Region.wanted, hgd]
    rw [if_pos hw]
    have hrun := run_app0 22 o.type base 40 i0 3 Try.underlying22 hi0 v ys.length (ys.flatMap eE) hown ad cap
    have hk := h v w (by rw [List.append_nil]; exact hown) (Below.refl _ _) (fun p _ _ => rfl)
    unfold Oper.wp
    simp only [List.length_nil] at hx
    simp [execOp, ho, resolve, invoke, builtin, hs, hx, hrun, Result.andThen]
    exact hk
/-- the same at a plain list of operations -/
theorem app_list {ops : Array Oper} {rest : List Oper} {o : Oper} {a : Act} {Q : Exit → Act → World → Prop} {w : World} (hgd : o.guard = none) (s x : Operand)
    (ho : o.op = .call { callee := .builtin .append, args := #[s, x], argTypes := #[22, 22] })
    (base : Nat) (v : Value) (ys : List Ep) (hs : a.eval s = v) (hown : OwnE w base v ys) (u : Value) (zs : List Ep) (hx : a.eval x = u) (hzs : Rd 3 eE w u zs) (hl : (ys.length + zs.length) * 24 ≤ 140737488355328) (hbase : base ≤ w.heap.size)
    (h : ∀ v' w', OwnE w' base v' (ys ++ zs) → Below base w w' → (∀ p : Addr, p.block < w.heap.size → v.ownBlock ≠ some p.block → w'.cell? p = w.cell? p) → wpList Try.prog ops Q rest (a.put o.dst v') w') : wpList Try.prog ops Q (o :: rest) a w := by
  refine wpList_plain hgd fun K hK => ?_
  have hw : Region.wanted o (yielded ops a.tmps) = true := by simp [Region.wanted, hgd]
  have := step_app (ops := ops) (K := K) (Q := Q) (E := True) hgd s x ho base v ys hs hown u zs hx hzs hl hbase (fun v' w' h1 h2 h3 => hK _ _ (h v' w' h1 h2 h3))
  rw [if_pos hw] at this
  exact this
theorem OwnE.next {w w' : World} {base : Nat} {v : Value} {xs : List Ep} (h : OwnE w base v xs) (hb : Below w.heap.size w w') : OwnE w' base v xs := by
  obtain ⟨hl, h | ⟨g, cap, cur, h1, h2, h3, h4, h5, h6, h7⟩⟩ := h
  · exact ⟨hl, .inl h⟩
  · refine ⟨hl, .inr ⟨g, cap, cur, h1, h2, ?_, h4, h5, h6, h7⟩⟩
    have hlt : g < w.heap.size := by
      rcases Nat.lt_or_ge g w.heap.size with hlt | hge
      · exact hlt
      · rw [Array.getElem?_eq_none hge] at h3; cases h3
    rw [hb.block g hlt]; exact h3
theorem own_nilE (w : World) (base : Nat) : OwnE w base (.slice none 0 0) [] := World.ownsRow_nil w base 40 3
end Rg
end Go.Proofs.Ytmeoeihfgmmgmaa
