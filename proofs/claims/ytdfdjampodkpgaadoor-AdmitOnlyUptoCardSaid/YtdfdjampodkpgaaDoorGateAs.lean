/- Gate: a token as a pass. -/
import Derived.Test.YtdfdjampodkpgaaDoorGateBody
import Derived.Test.YtdfdjampodkpgaaDoorJPass
set_option linter.unusedSimpArgs false
set_option linter.unusedVariables false
namespace Go.Proofs.YtdfdjampodkpgaaDoor
open Go.RowKit
namespace Gt
open Sn Pa
set_option maxRecDepth 100000 in
set_option maxHeartbeats 1000000 in
theorem asPass_any (t : Tk) (d : Value) (l : List Sp) (w : World) (h : RdE elS w d l) : Calls Tryd.prog 61 #[aT t d] w (fun e w' => e = .returned (aP ⟨t.id, 1, t.a, t.b, t.ser⟩ d) ∧ Below w.heap.size w w') := by
  obtain ⟨id, a, b, ser⟩ := t
  obtain ⟨pa, pc, rfl, h1, h2, h3⟩ := h
  clear h3 h1 h2
  have hT := Box.new w 30 [.int .i64 id, .int .i64 a, .int .i64 b, .int .i64 ser, .slice pa l.length pc]
  have hs1 : (w.alloc (.cells #[.int .i64 id, .int .i64 a, .int .i64 b, .int .i64 ser, .slice pa l.length pc] 30)).heap.size = w.heap.size + 1 := asz _ _
  go_enter Tryd.func61, Tryd.ntmps61
  go_wp2
  have hP := Box.new (w.alloc (.cells #[.int .i64 id, .int .i64 a, .int .i64 b, .int .i64 ser, .slice pa l.length pc] 30)) 25 [.int .i64 id, .int .i64 1, .int .i64 a, .int .i64 b, .int .i64 ser, .slice pa l.length pc]
  rw [hs1] at hP
  have p0 := hP.cell 0; have p1 := hP.cell 1; have p2 := hP.cell 2; have p3 := hP.cell 3; have p4 := hP.cell 4; have p5 := hP.cell 5
  simp only [List.getElem?_cons_zero, List.getElem?_cons_succ] at p0 p1 p2 p3 p4 p5
  have hb := (((br w).alloc (Nat.le_refl _) (.cells #[.int .i64 id, .int .i64 a, .int .i64 b, .int .i64 ser, .slice pa l.length pc] 30)).alloc (by simp) (.cells #[.int .i64 id, .int .i64 1, .int .i64 a, .int .i64 b, .int .i64 ser, .slice pa l.length pc] 25))
  refine bodyPost_ret (v := aP ⟨id, 1, a, b, ser⟩ (.slice pa l.length pc)) ?_ rfl ⟨rfl, hb⟩
  simp [results, Tryd.results61, go_sem, p0, p1, p2, p3, p4, p5]
end Gt
end Go.Proofs.YtdfdjampodkpgaaDoor
