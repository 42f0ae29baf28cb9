/- Slices of ints that the call makes itself. -/
import Derived.Test.YtogohocokmhjcaaProg
import Derived.Test.YtogohocokmhjcaaBase2
import Derived.Test.YtogohocokmhjcaaRd
import Derived.Maps.AppendAt
import Derived.OwnWalk
set_option linter.unusedVariables false
namespace Go.Proofs.Ytogohocokmhjcaa
open Go.RowKit
abbrev OwnI (w : World) (base : Nat) (v : Value) (xs : List Int) : Prop := w.ownsRow base 3 1 v xs.length (xs.map (Value.int .i64))
theorem int_info : (Try.prog.info? 3).map (fun i => (i.zero, i.size, i.bytes)) = some (some (.int .i64 0), 1, 8) := by kernel_rfl
theorem app_int' {ops : Array Oper} {rest : List Oper} {o : Oper} {a : Act} {Q : Exit → Act → World → Prop} {w : World} (hgd : o.guard = none) (s x : Operand)
    (ho : o.op = .call { callee := .builtin .append, args := #[s, x], argTypes := #[30, 30] }) (base : Nat) (v : Value) (xs : List Int) (hs : a.eval s = v) (hown : OwnI w base v xs)
    (g c : Nat) (u : Int) (hx : a.eval x = .slice (some ⟨g, 0, none⟩) 1 c) (hc : w.cell? ⟨g, 0, none⟩ = some (.int .i64 u)) (hn : xs.length ≤ 1000000) (hbase : base ≤ w.heap.size)
    (h : ∀ v' w', OwnI w' base v' (xs ++ [u]) → Below base w w' → (∀ p : Addr, p.block < w.heap.size → v.ownBlock ≠ some p.block → w'.cell? p = w.cell? p) → wpList Try.prog ops Q rest (a.put o.dst v') w') : wpList Try.prog ops Q (o :: rest) a w := by
  obtain ⟨i0, hi0, hz0, hz1, hz2⟩ := info_parts int_info
  refine wpList_append_own_at w hgd s x _ ho base 3 i0 _ 1 8 Try.underlying30 hi0 hz0 hz1 hz2 rfl (by omega) v xs.length (xs.map (Value.int .i64)) hs hown ⟨g, 0, none⟩ 1 c [.int .i64 u] hx rfl
    (fun j y hy => ?_) (fun y hy => ?_) (by unfold maxLen; omega) (by omega) hbase ?_
  · match j with
    | 0 => simp at hy; subst hy; rw [Addr.add_zero']; exact hc
    | j + 1 => simp at hy
  · simp at hy; subst hy; rfl
  · intro v' w' hown' hg _ _
    refine h v' w' ?_ ((Below.refl _ _).grown hg hbase (fun k hk => (hown.lt k hk).1)) (fun p hp hne => World.cell?_of_block (hg.block p.block hp (Ne.symm hne)))
    simpa [OwnI] using hown'
theorem app_int {ops : Array Oper} {rest : List Oper} {o : Oper} {a : Act} {Q : Exit → Act → World → Prop} {w : World} (hgd : o.guard = none) (s x : Operand)
    (ho : o.op = .call { callee := .builtin .append, args := #[s, x], argTypes := #[30, 30] }) (base : Nat) (v : Value) (xs : List Int) (hs : a.eval s = v) (hown : OwnI w base v xs)
    (g c : Nat) (u : Int) (hx : a.eval x = .slice (some ⟨g, 0, none⟩) 1 c) (hc : w.cell? ⟨g, 0, none⟩ = some (.int .i64 u)) (hn : xs.length ≤ 1000000) (hbase : base ≤ w.heap.size)
    (h : ∀ v' w', OwnI w' base v' (xs ++ [u]) → Below base w w' → wpList Try.prog ops Q rest (a.put o.dst v') w') : wpList Try.prog ops Q (o :: rest) a w :=
  app_int' hgd s x ho base v xs hs hown g c u hx hc hn hbase (fun v' w' h1 h2 _ => h v' w' h1 h2)
theorem OwnI.next {w w' : World} {base : Nat} {v : Value} {xs : List Int} (h : OwnI w base v xs) (hb : Below w.heap.size w w') : OwnI w' base v xs := by
  obtain ⟨hl, h | ⟨g, cap, cur, h1, h2, h3, h4, h5, h6, h7⟩⟩ := h
  · exact ⟨hl, .inl h⟩
  · refine ⟨hl, .inr ⟨g, cap, cur, h1, h2, ?_, h4, h5, h6, h7⟩⟩
    have hlt : g < w.heap.size := by
      rcases Nat.lt_or_ge g w.heap.size with hlt | hge
      · exact hlt
      · rw [Array.getElem?_eq_none hge] at h3; cases h3
    rw [hb.block g hlt]; exact h3
theorem OwnI.rd {w : World} {base : Nat} {v : Value} {xs : List Int} (h : OwnI w base v xs) : Rd 1 eI w v xs := by
  refine Rd.of_own h rfl (fun i hi j u hu => ?_)
  match j with
  | 0 => simp [eI] at hu; subst hu; exact ⟨by omega, by simp [hi]⟩
  | j + 1 => simp [eI] at hu
/-- a row of ints in a block of the call's own: cells 0 to n -/
structure Tr (W w : World) (g n : Nat) (T : Nat → Int) : Prop where
  below : Below W.heap.size W w
  ge : W.heap.size ≤ g
  lt : g < w.heap.size
  cell : ∀ j : Nat, j ≤ n → w.cell? ⟨g, j, none⟩ = some (.int .i64 (T j))
  froz : ∀ j : Nat, j ≤ n → w.frozen? ⟨g, j, none⟩ = false
section
variable {W w w' : World} {g n : Nat} {T : Nat → Int}
theorem Tr.next (h : Tr W w g n T) (hb : Below w.heap.size w w') : Tr W w' g n T :=
  ⟨h.below.trans (hb.mono h.below.size), h.ge, kl hb h.lt, fun j hj => (hb.cell (p := ⟨g, j, none⟩) h.lt).trans (h.cell j hj), fun j hj => (hb.frozen (p := ⟨g, j, none⟩) h.lt).trans (h.froz j hj)⟩
theorem Tr.dr (h : Tr W w g n T) (m : Nat) : Tr W (w.drewN m) g n T := ⟨⟨h.below.os, h.below.tape, h.below.output, h.below.size, h.below.block⟩, h.ge, h.lt, h.cell, h.froz⟩
theorem Tr.set (h : Tr W w g n T) (k : Nat) (hk : k ≤ n) (x : Int) : Tr W (w.setCell ⟨g, k, none⟩ (.int .i64 x)) g n (fun j => if j = k then x else T j) := by
  refine ⟨h.below.setCell h.ge _, h.ge, ?_, fun j hj => ?_, fun j hj => ?_⟩
  · have := h.lt; simpa using this
  · by_cases e : j = k
    · subst e; rw [if_pos rfl]; exact World.cell?_setCell_same w _ _ (h.cell j hj)
    · rw [if_neg e, World.cell?_setCell_other w _ _ _ (by intro e2; injection e2; omega)]
      exact h.cell j hj
  · rw [World.frozen?_setCell]; exact h.froz j hj
end
theorem OwnI.tr {W w : World} {base : Nat} {v : Value} {xs : List Int} (h : OwnI w base v xs) (hn : 0 < xs.length) (hb : Below W.heap.size W w) (hB : W.heap.size ≤ base) :
    ∃ g cap, v = .slice (some ⟨g, 0, none⟩) xs.length cap ∧ xs.length ≤ cap ∧ cap ≤ maxLen ∧ Tr W w g (xs.length - 1) (fun j => xs.getD j 0) := by
  obtain ⟨hl, h | ⟨g, cap, cur, h1, h2, h3, h4, h5, h6, h7⟩⟩ := h
  · omega
  · subst h1
    have hown : w.ownsRow base 3 1 (.slice (some ⟨g, 0, none⟩) xs.length cap) xs.length (xs.map (Value.int .i64)) := ⟨hl, .inr ⟨g, cap, cur, rfl, h2, h3, h4, h5, h6, h7⟩⟩
    refine ⟨g, cap, rfl, h4, h5, hb, by omega, ?_, fun j hj => ?_, fun j hj => hown.frozenAt j⟩
    · rcases Nat.lt_or_ge g w.heap.size with hlt | hge
      · exact hlt
      · rw [Array.getElem?_eq_none hge] at h3; cases h3
    · rw [hown.cellAt j (by omega)]
      simp [List.getElem?_eq_getElem (show j < xs.length by omega)]
end Go.Proofs.Ytogohocokmhjcaa
