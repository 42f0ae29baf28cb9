/- More days cost no less; two parts cost together no less than all of it; with an offer more it costs no more. -/
import Derived.Test.YtogohocokmhjcaaCoverLaws
import Derived.Deep.RegionWith
import Derived.Deep.RegionHeld3
import Derived.Deep.AppendLies
set_option linter.unusedVariables false
namespace Go.Proofs.Ytogohocokmhjcaa
open Go.RowKit
namespace Cv
abbrev OwnO (w : World) (base : Nat) (v : Value) (xs : List Offer) : Prop := w.ownsRow base 47 2 v xs.length (xs.flatMap eO)
theorem offer_info : (Try.prog.info? 47).map (fun i => (i.zero, i.size, i.bytes)) = some (some (.agg #[.int .i64 0, .int .i64 0]), 2, 16) := by kernel_rfl
theorem flat_len (xs : List Offer) : (xs.flatMap eO).length = xs.length * 2 := by
  induction xs with
  | nil => rfl
  | cons o xs ih => simp [eO, ih]; omega
theorem flat_at (xs : List Offer) : ∀ (i : Nat) (h : i < xs.length), (xs.flatMap eO)[i * 2]? = some (.int .i64 xs[i].1) ∧ (xs.flatMap eO)[i * 2 + 1]? = some (.int .i64 xs[i].2) := by
  induction xs with
  | nil => intro i h; simp at h
  | cons o xs ih =>
    intro i h
    match i with
    | 0 => simp [eO]
    | i + 1 =>
      have := ih i (by simpa using h)
      have e1 : (i + 1) * 2 = i * 2 + 2 := by omega
      have e2 : (i + 1) * 2 + 1 = i * 2 + 1 + 2 := by omega
      rw [e2, e1]
      simp only [List.flatMap_cons, eO, List.cons_append, List.nil_append, List.getElem?_cons_succ, List.getElem_cons_succ]
      exact this
theorem OwnO.rd {w : World} {base : Nat} {v : Value} {xs : List Offer} (h : OwnO w base v xs) : Rd 2 eO w v xs := by
  refine Rd.of_own h rfl (fun i hi j u hu => ?_)
  obtain ⟨h1, h2⟩ := flat_at xs i hi
  match j with
  | 0 => simp [eO] at hu; subst hu; exact ⟨by omega, h1⟩
  | 1 => simp [eO] at hu; subst hu; exact ⟨by omega, h2⟩
  | j + 2 => simp [eO] at hu
theorem own0 (w : World) (base H : Nat) (hH : w.heap.size = H) (h : base ≤ H) : OwnO (w.alloc (.cells #[] 47)) base (.slice (some ⟨H, 0, none⟩) 0 0) [] := by
  subst hH
  refine ⟨rfl, .inr ⟨w.heap.size, 0, #[], rfl, h, ?_, Nat.le_refl _, by unfold maxLen; omega, rfl, rfl⟩⟩
  exact heap_alloc_new w _
theorem rd1 (w : World) (p q : Int) (g : Nat) (hg : g < w.heap.size) (h0 : w.cell? ⟨g, 0, none⟩ = some (.int .i64 p)) (h1 : w.cell? ⟨g, 1, none⟩ = some (.int .i64 q)) : Rd 2 eO w (.slice (some ⟨g, 0, none⟩) 1 1) [(p, q)] := by
  refine ⟨_, _, rfl, Nat.le_refl _, by unfold maxLen; omega, fun _ => ⟨g, 0, rfl, hg, ?_⟩⟩
  intro i hi j u hu
  have : i = 0 := by simpa using hi
  subst this
  match j with
  | 0 => simp [eO] at hu; subst hu; exact h0
  | 1 => simp [eO] at hu; subst hu; exact h1
  | j + 2 => simp [eO] at hu
theorem rd1a (w : World) (p q : Int) (t : TypeId) (H : Nat) (hH : w.heap.size = H) : Rd 2 eO (w.alloc (.cells #[.int .i64 p, .int .i64 q] t)) (.slice (some ⟨H, 0, none⟩) 1 1) [(p, q)] := by
  subst hH
  refine rd1 _ p q _ (by simp) ?_ ?_
  · rw [World.cell?_alloc_mark]; rfl
  · rw [World.cell?_alloc_mark]; rfl
theorem rd_dr {w : World} {v : Value} {xs : List Offer} (h : Rd 2 eO w v xs) : Rd 2 eO w.drew v xs := h.below (bn (br _) 1)
theorem far_rd {W w4 : World} {v : Value} {p q : Int} (B : Nat) (hb : Below B W w4) (hfar : ∀ a : Addr, a.block < W.heap.size → v.ownBlock ≠ some a.block → w4.cell? a = W.cell? a) (H : Nat) (h : Rd 2 eO W (.slice (some ⟨H, 0, none⟩) 1 1) [(p, q)])
    (hne : v.ownBlock ≠ some H) : Rd 2 eO w4 (.slice (some ⟨H, 0, none⟩) 1 1) [(p, q)] := by
  obtain ⟨a, cap, e, h1, h2, h3⟩ := h
  injection e with e1 e2 e3
  subst e1 e3
  obtain ⟨b, off, e, hb', hc⟩ := h3 (by simp)
  injection e with e; injection e with e1 e2; subst e1 e2
  refine ⟨_, _, rfl, h1, h2, fun _ => ⟨H, 0, rfl, Nat.lt_of_lt_of_le hb' hb.size, fun i hi j u hu => ?_⟩⟩
  rw [hfar _ hb' hne]
  exact hc i hi j u hu
theorem step_app {ops : Array Oper} {o : Oper} {a : Act} {K : Act → World → Prop} {Q : Exit → Act → World → Prop} {E : Prop} {w : World} (hgd : o.guard = none) (s x : Operand)
    (ho : o.op = .call { callee := .builtin .append, args := #[s, x], argTypes := #[22, 22] })
    (base : Nat) (v : Value) (ys : List Offer) (hs : a.eval s = v) (hown : OwnO w base v ys) (u : Value) (zs : List Offer) (hx : a.eval x = u) (hzs : Rd 2 eO w u zs) (hz : 0 < zs.length) (hl : ys.length + zs.length ≤ 1000) (hbase : base ≤ w.heap.size)
    (h : ∀ v' w', OwnO w' base v' (ys ++ zs) → Below base w w' → (∀ p : Addr, p.block < w.heap.size → v.ownBlock ≠ some p.block → w'.cell? p = w.cell? p) → K (a.put o.dst v') w') :
    if Region.wanted o (yielded ops a.tmps) = true then Oper.wp Try.prog o a w K Q else E := by
  obtain ⟨i0, hi0, hz0, hz1, hz2⟩ := info_parts offer_info
  obtain ⟨ad, cap, rfl, h1, h2, h3⟩ := hzs
  obtain ⟨b, off, rfl, hb, hc⟩ := h3 hz
  refine step_append_lies w hgd s x _ ho base 47 i0 _ 2 16 Try.underlying22 hi0 hz0 hz1 hz2 rfl (by omega) v ys.length (ys.flatMap eO) hs hown ⟨b, off, none⟩ zs.length cap (zs.flatMap eO) hx (flat_len zs) (fun j y hy => ?_) (fun y hy => ?_) hz (by unfold maxLen; omega) (by omega) hbase w.heap.size rfl ?_
  · have hj : j < (zs.flatMap eO).length := by
      rcases Nat.lt_or_ge j (zs.flatMap eO).length with h | h
      · exact h
      · rw [List.getElem?_eq_none h] at hy; cases hy
    rw [flat_len] at hj
    obtain ⟨f1, f2⟩ := flat_at zs (j / 2) (by omega)
    have ha : (⟨b, off, none⟩ : Addr).add j = ⟨b, off + j, none⟩ := by unfold Addr.add; split <;> simp_all
    rw [ha]
    rcases (show j = j / 2 * 2 ∨ j = j / 2 * 2 + 1 by omega) with e | e
    · rw [e, f1] at hy; injection hy with hy; subst hy
      have := hc (j / 2) (by omega) 0 (.int .i64 zs[j / 2].1) (by simp [eO])
      rw [show off + (j / 2 * 2 + 0) = off + j by omega] at this
      exact this
    · rw [e, f2] at hy; injection hy with hy; subst hy
      have := hc (j / 2) (by omega) 1 (.int .i64 zs[j / 2].2) (by simp [eO])
      rw [show off + (j / 2 * 2 + 1) = off + j by omega] at this
      exact this
  · obtain ⟨o, _, hy⟩ := List.mem_flatMap.1 hy
    simp [eO] at hy
    rcases hy with rfl | rfl <;> rfl
  · intro g cap' w' hown' hg hat hlt
    refine h _ w' ?_ ((Below.refl _ _).grown hg hbase (fun k hk => (hown.lt k hk).1)) (fun p hp hne => World.cell?_of_block (hg.block p.block hp (Ne.symm hne)))
    unfold OwnO
    rw [List.length_append, List.flatMap_append]
    exact hown'
theorem more_law {xs : List Offer} (ok : Ok xs) (o : Offer) (n : Nat) (hn : n ≤ 400) : ∃ Z C : Int, bestF (xs ++ [o]) n = (Z, C) ∧ (C ≠ 0 ∨ (C = 0 ∧ Z ≤ best xs n)) := by
  rcases best_cases (xs ++ [o]) n with ⟨c, hb, hc, _⟩ | ⟨k, hk, _, ok', _, hb, _⟩
  · exact ⟨0, c, hb, .inl hc⟩
  · refine ⟨_, _, hb, .inr ⟨rfl, ?_⟩⟩
    obtain rfl : n = k := by omega
    exact best_more ok o (ok'.all o (by simp)) n (by omega)
theorem part_law {xs : List Offer} (ok : Ok xs) (hl : check xs = 0) (n m : Nat) : ∃ Z C : Int, bestF xs ((n : Int) + (m : Int)) = (Z, C) ∧ ((C = 3) ∨ (C = 0 ∧ Z ≤ best xs n + best xs m)) := by
  by_cases h : (n : Int) + m ≤ 400
  · have hr : readyF xs ((n : Int) + m) = 0 := by unfold readyF; rw [if_neg (fun x => x hl), if_neg (by omega)]
    refine ⟨best xs (n + m), 0, ?_, .inr ⟨rfl, best_sub ok n m (by omega)⟩⟩
    unfold bestF; rw [if_neg (fun x => x hr)]
    congr 2
  · have hr : readyF xs ((n : Int) + m) = 3 := by unfold readyF; rw [if_neg (fun x => x hl), if_pos (by omega)]
    refine ⟨0, 3, ?_, .inl rfl⟩
    unfold bestF; rw [if_pos (by rw [hr]; decide), hr]
end Cv
end Go.Proofs.Ytogohocokmhjcaa
