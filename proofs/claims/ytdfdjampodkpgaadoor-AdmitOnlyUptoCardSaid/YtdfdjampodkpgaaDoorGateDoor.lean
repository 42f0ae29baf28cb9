/- Gate: the deferred closure of token, and its door. -/
import Derived.Test.YtdfdjampodkpgaaDoorGateGet
import Derived.Test.YtdfdjampodkpgaaDoorGateBody
import Derived.Defers
import Derived.Recover
import Derived.Laws.Pointers
set_option linter.unusedSimpArgs false
set_option linter.unusedVariables false
namespace Go.Proofs.YtdfdjampodkpgaaDoor
open Go.RowKit
namespace Gt
open Sn
abbrev brk : Value := .iface 93 (.agg #[])
abbrev tz : List Value := [.int .i64 0, .int .i64 0, .int .i64 0, .int .i64 0, .slice none 0 0]
abbrev tc (t : Tk) (d : Value) : List Value := [.int .i64 t.id, .int .i64 t.a, .int .i64 t.b, .int .i64 t.ser, d]
set_option maxRecDepth 100000 in
theorem catch_idle (b c : Nat) (w : World) :
    CallsD Tryd.prog 59 #[.pointer (some ⟨b, 0, none⟩), .pointer (some ⟨c, 0, none⟩)] .returning w fun e u' w' => e = .returned (.tuple #[]) ∧ u' = .returning ∧ w' = w := by
  refine callsD_of_wpS Tryd.func59 rfl fun c₀ cs hu => ?_
  apply wpS_seq
  apply wpS_region
  simp [wpOpsS, go_sem, recoverD, hu, Tryd.ntmps59, Exit.thenS]
  apply wpS_seq
  apply wpS_region
  simp [wpOpsS, go_sem, Exit.thenS]
  refine wpS_cond (t := false) (by simp [Act.eval, Array.replicate]) ?_
  simp only [Bool.false_eq_true, if_false]
  refine wpS_of_wp (wp_skip ?_)
  cases c₀
  simp_all [bodyPostS, results, Tryd.results59]
set_option maxRecDepth 100000 in
set_option maxHeartbeats 1000000 in
theorem catch_panicking (b c : Nat) (t : Tk) (d : Value) (q : Bool) (w : World) (hb : Box w b 30 (tc t d)) (hc : Box w c 4 [.bool q]) :
    CallsD Tryd.prog 59 #[.pointer (some ⟨b, 0, none⟩), .pointer (some ⟨c, 0, none⟩)] (.panicking [{ v := brk, recovered := false }]) w fun e u' w' =>
      e = .returned (.tuple #[]) ∧ u' = .panicking [{ v := brk, recovered := true }] ∧ Box w' b 30 tz ∧ Box w' c 4 [.bool false] ∧ ∀ B, B ≤ b → B ≤ c → B ≤ w.heap.size → Below B w w' := by
  refine callsD_of_wpS Tryd.func59 rfl fun c₀ cs hu => ?_
  apply wpS_seq
  apply wpS_region
  simp [wpOpsS, go_sem, recoverD, hu, Tryd.ntmps59, Exit.thenS]
  apply wpS_seq
  apply wpS_region
  simp [wpOpsS, go_sem, Exit.thenS]
  refine wpS_cond (t := true) (by simp [Act.eval, Array.replicate]) ?_
  simp only [if_true]
  have hta : ∀ w, (Instr.typeAssert brk 20 93 true).run Tryd.prog w = .ok (.tuple #[.agg #[], .bool true]) w := fun _ => by kernel_rfl
  apply wpS_seq
  apply wpS_seq
  apply wpS_region
  simp [wpOpsS, go_sem, Exit.thenS, hta]
  apply wpS_seq
  apply wpS_region
  simp [wpOpsS, go_sem, Exit.thenS]
  refine wpS_cond (t := false) (by simp [Act.eval, Array.replicate]) ?_
  simp only [Bool.false_eq_true, if_false]
  refine wpS_of_wp (wp_skip ?_)
  simp [Exit.thenS]
  apply wpS_region
  have hne : ¬ c = b := fun e => by
    subst e
    unfold Box at hb hc
    rw [hb] at hc
    injection hc with hc; injection hc with _ hc; cases hc
  have hne' : ¬ b = c := fun e => hne e.symm
  have hB := hb.alloc (.cells #[] 93); have hC := hc.alloc (.cells #[] 93)
  have hbl : ∀ B, B ≤ b → B ≤ c → B ≤ w.heap.size → Below B w (w.alloc (.cells #[] 93)) := fun B _ _ h3 => (Below.refl B w).alloc h3 _
  generalize w.alloc (.cells #[] 93) = W at hB hC hbl ⊢
  have hB' := ((((hB.set 0 (.int .i64 0)).set 1 (.int .i64 0)).set 2 (.int .i64 0)).set 3 (.int .i64 0)).set 4 (.slice none 0 0)
  have hC' := ((((((hC.other b 0 (.int .i64 0) hne).other b 1 (.int .i64 0) hne).other b 2 (.int .i64 0) hne).other b 3 (.int .i64 0) hne).other b 4 (.slice none 0 0) hne)).set 0 (.bool false)
  have hB2 := hB'.other c 0 (.bool false) hne'
  have hbl2 : ∀ B, B ≤ b → B ≤ c → B ≤ w.heap.size → Below B w ((((((W.setCell ⟨b, 0, none⟩ (.int .i64 0)).setCell ⟨b, 1, none⟩ (.int .i64 0)).setCell ⟨b, 2, none⟩ (.int .i64 0)).setCell ⟨b, 3, none⟩ (.int .i64 0)).setCell ⟨b, 4, none⟩ (.slice none 0 0)).setCell ⟨c, 0, none⟩ (.bool false)) := fun B h1 h2 h3 =>
    ((((((hbl B h1 h2 h3).setCell (p := ⟨b, 0, none⟩) h1 _).setCell (p := ⟨b, 1, none⟩) h1 _).setCell (p := ⟨b, 2, none⟩) h1 _).setCell (p := ⟨b, 3, none⟩) h1 _).setCell (p := ⟨b, 4, none⟩) h1 _).setCell (p := ⟨c, 0, none⟩) h2 _
  have z := hB.froz; have y := hC.froz 0
  have c0 := hB.cell 0; have c1 := hB.cell 1; have c2 := hB.cell 2; have c3 := hB.cell 3; have c4 := hB.cell 4; have d0 := hC.cell 0
  simp only [List.getElem?_cons_zero, List.getElem?_cons_succ] at c0 c1 c2 c3 c4 d0
  simp [wpOpsS, go_sem, Exit.thenS, c0, c1, c2, c3, c4, d0, z, y, hne, hne', bodyPostS, results, Tryd.results59]
  exact ⟨hB2, hC', hbl2⟩
end Gt
end Go.Proofs.YtdfdjampodkpgaaDoor
