/- Gate: behind a panic token is none. -/
import Derived.Test.YtdfdjampodkpgaaDoorGateDoor
set_option linter.unusedSimpArgs false
set_option linter.unusedVariables false
namespace Go.Proofs.YtdfdjampodkpgaaDoor
open Go.RowKit
namespace Gt
open Sn
abbrev tk0 : Tk := ⟨0, 0, 0, 0⟩
abbrev NoTok (W : World) (e : Ending) (w' : World) : Prop := e = .returned (.tuple #[aT tk0 (.slice none 0 0), .bool false]) ∧ Below W.heap.size W w'
/-- what a walk of token keeps, and what stands behind it -/
structure Key (n : Nat) (a : Act) : Prop where
  df : a.defers = [{ target := .fn (.func 59) #[.pointer (some ⟨n, 0, none⟩), .pointer (some ⟨n + 1, 0, none⟩)], args := #[] }]
  t2 : a.tmps.getD 2 undef = .pointer (some ⟨n, 0, none⟩)
  t3 : a.tmps.getD 3 undef = .pointer (some ⟨n + 1, 0, none⟩)
theorem Key.unput {n : Nat} {a : Act} {o : Option Tmp} {v : Value} (h2 : o ≠ some 2) (h3 : o ≠ some 3) (h : Key n (a.put o v)) : Key n a := by
  cases o with
  | none => exact h
  | some t =>
    obtain ⟨k1, k2, k3⟩ := h
    have e2 : (a.tmps.setIfInBounds t v)[2]? = a.tmps[2]? := Array.getElem?_setIfInBounds_ne (by intro e; exact h2 (by rw [e]))
    have e3 : (a.tmps.setIfInBounds t v)[3]? = a.tmps[3]? := Array.getElem?_setIfInBounds_ne (by intro e; exact h3 (by rw [e]))
    refine ⟨k1, ?_, ?_⟩
    · rw [Array.getD_eq_getD_getElem?] at k2 ⊢
      rw [← e2]; exact k2
    · rw [Array.getD_eq_getD_getElem?] at k3 ⊢
      rw [← e3]; exact k3
structure Kw (n : Nat) (W w : World) : Prop where
  bx : ∃ t d, Box w n 30 (tc t d)
  ok : ∃ q, Box w (n + 1) 4 [.bool q]
  bl : Below n W w
  le : n ≤ w.heap.size
set_option maxRecDepth 100000 in
theorem door (n : Nat) (a : Act) (W w : World) (hn : n = W.heap.size) (hk : Key n a) (hw : Kw n W w) (R : Ending → World → Prop) (hR : ∀ e w', NoTok W e w' → R e w') :
    Leaves Tryd.prog Tryd.f29 a.tmps R a.defers (.panicking [{ v := brk, recovered := false }]) w := by
  obtain ⟨⟨t, d, hb⟩, ⟨q, hc⟩, hbl, hle⟩ := hw
  obtain ⟨h1, h2, h3⟩ := hk
  rw [h1]
  rw [Array.getD_eq_getD_getElem?] at h2 h3
  refine leaves_cons (f := 59) (args := #[.pointer (some ⟨n, 0, none⟩), .pointer (some ⟨n + 1, 0, none⟩)]) (by simp) (by simp [go_sem]) ?_
  refine (catch_panicking n (n + 1) t d q w hb hc).mono ?_
  rintro e u' w'' ⟨rfl, rfl, hb2, hc2, hbl2⟩
  have c0 := hb2.cell 0; have c1 := hb2.cell 1; have c2 := hb2.cell 2; have c3 := hb2.cell 3; have c4 := hb2.cell 4; have d0 := hc2.cell 0
  simp only [List.getElem?_cons_zero, List.getElem?_cons_succ] at c0 c1 c2 c3 c4 d0
  have hfin := hR (.returned (.tuple #[aT tk0 (.slice none 0 0), .bool false])) w'' ⟨rfl, by rw [← hn]; exact hbl.trans (hbl2 n (Nat.le_refl _) (Nat.le_succ _) hle)⟩
  simp [Leaves, settle, results, Tryd.results29, go_sem, h2, h3, c0, c1, c2, c3, c4, d0]

  exact hfin
set_option maxRecDepth 100000 in
theorem door_ret (n : Nat) (a : Act) (w : World) (hk : Key n a) (t : Tk) (d : Value) (q : Bool) (hb : Box w n 30 (tc t d)) (hc : Box w (n + 1) 4 [.bool q]) (R : Ending → World → Prop) (hR : R (.returned (.tuple #[aT t d, .bool q])) w) :
    Leaves Tryd.prog Tryd.f29 a.tmps R a.defers .returning w := by
  obtain ⟨h1, h2, h3⟩ := hk
  rw [h1]
  rw [Array.getD_eq_getD_getElem?] at h2 h3
  refine leaves_cons (f := 59) (args := #[.pointer (some ⟨n, 0, none⟩), .pointer (some ⟨n + 1, 0, none⟩)]) (by simp) (by simp [go_sem]) ?_
  refine (catch_idle n (n + 1) w).mono ?_
  rintro e u' w'' ⟨rfl, rfl, rfl⟩
  have c0 := hb.cell 0; have c1 := hb.cell 1; have c2 := hb.cell 2; have c3 := hb.cell 3; have c4 := hb.cell 4; have d0 := hc.cell 0
  simp only [List.getElem?_cons_zero, List.getElem?_cons_succ] at c0 c1 c2 c3 c4 d0
  simp [Leaves, settle, results, Tryd.results29, go_sem, h2, h3, c0, c1, c2, c3, c4, d0]
  exact hR
end Gt
end Go.Proofs.YtdfdjampodkpgaaDoor
