/- Passes: the pass that laws begin with. (gen_pass3.py) -/
import Derived.Test.YtdfdjampodkpgaaDoorJPass
import Derived.Deep.RegionHeld3
set_option linter.unusedSimpArgs false
set_option linter.unusedVariables false
namespace Go.Proofs.YtdfdjampodkpgaaDoor
open Go.RowKit
namespace Pa
open Dt Sn
set_option maxHeartbeats 1000000 in
theorem span_p (a b : Int) (w : World) : Calls Tryd.prog 70 #[.int .i64 a, .int .i64 b] w fun e w' => e = .returned (aS (a, b)) ∧ Below w.heap.size w w' := by
  go_enter Tryd.func70, Tryd.ntmps70
  go_wp2
  refine bodyPost_ret (v := .agg #[.int .i64 a, .int .i64 b]) (by simp [results, Tryd.results70, go_sem]) rfl ⟨rfl, ?_⟩
  exact (br _).alloc (Nat.le_refl _) _
theorem list_p (v : Value) (w : World) : Calls Tryd.prog 69 #[v] w fun e w' => e = .returned v ∧ w = w' := by
  go_enter Tryd.func69, Tryd.ntmps69
  go_wp2
  go_ret
  exact ⟨rfl, rfl⟩
set_option maxHeartbeats 2000000 in
theorem wren_any (w : World) : Calls Tryd.prog 37 #[] w (fun e w' => ∃ v, e = .returned (aP ⟨7, 690000, 1, 3, 1⟩ v) ∧ RdE elS w' v [(700000, 700007)] ∧ Below w.heap.size w w') := by
  have CS := Lib.hid span_p
  have CL := Lib.hid list_p
  have HA := Lib.hid ((br w).alloc (Nat.le_refl _) (.cells #[.int .i64 0, .int .i64 0, .int .i64 0, .int .i64 0, .int .i64 0, .slice none 0 0] 25))
  have HY := Lib.hid (Box.new w 25 [.int .i64 0, .int .i64 0, .int .i64 0, .int .i64 0, .int .i64 0, .slice none 0 0])
  go_enter Tryd.func37, Tryd.ntmps37
  go_wp2_with fail
  refine (CS.out _ _ _).mono ?_
  rintro en w2 ⟨rfl, b2⟩
  have HB := Lib.hid (bt HA.out b2)
  have hy := HY.out.next b2
  have hlt := hy.lt
  have hl := rd_lit elS [(700000, 700007)] w2 67 (0, 0) w2.heap.size rfl (by simp [maxLen])
  clear b2 HA HY
  have z0 := hy.cell 0; have z1 := hy.cell 1; have z2 := hy.cell 2; have z3 := hy.cell 3; have z4 := hy.cell 4; have z5 := hy.cell 5
  simp only [List.getElem?_cons_zero, List.getElem?_cons_succ] at z0 z1 z2 z3 z4 z5
  have f0 := hy.froz 0; have f1 := hy.froz 1; have f2 := hy.froz 2; have f3 := hy.froz 3; have f4 := hy.froz 4; have f5 := hy.froz 5
  have HY2 := Lib.hid hy
  have HL := Lib.hid hl
  clear hy hl
  go_wp2_with fail
  refine (CL.out _ _).mono ?_
  rintro en w3 ⟨rfl, rfl⟩
  have HY3 := Lib.hid (HY2.out.alloc (.cells #[.int .i64 700000, .int .i64 700007] 67))
  have HB3 := Lib.hid (HB.out.alloc HB.out.size (.cells #[.int .i64 700000, .int .i64 700007] 67))
  clear CS CL
  go_wp2
  have P := Pb.put HY2.out ⟨7, 690000, 1, 3, 1⟩ (.slice (some ⟨w2.heap.size, 0, none⟩) 1 1)
  have Q := below6 HB.out (b := w.heap.size) (Nat.le_refl _) (.int .i64 7) (.int .i64 690000) (.int .i64 1) (.int .i64 3) (.int .i64 1) ((.slice (some ⟨w2.heap.size, 0, none⟩) 1 1))
  have Z : ((((((w2.setCell ⟨w.heap.size, 0, none⟩ (.int .i64 7)).setCell ⟨w.heap.size, 1, none⟩ (.int .i64 690000)).setCell ⟨w.heap.size, 2, none⟩ (.int .i64 1)).setCell ⟨w.heap.size, 3, none⟩ (.int .i64 3)).setCell ⟨w.heap.size, 4, none⟩ (.int .i64 1)).setCell ⟨w.heap.size, 5, none⟩ ((.slice (some ⟨w2.heap.size, 0, none⟩) 1 1))).heap.size = w2.heap.size := by simp
  generalize (((((w2.setCell ⟨w.heap.size, 0, none⟩ (.int .i64 7)).setCell ⟨w.heap.size, 1, none⟩ (.int .i64 690000)).setCell ⟨w.heap.size, 2, none⟩ (.int .i64 1)).setCell ⟨w.heap.size, 3, none⟩ (.int .i64 3)).setCell ⟨w.heap.size, 4, none⟩ (.int .i64 1)).setCell ⟨w.heap.size, 5, none⟩ ((.slice (some ⟨w2.heap.size, 0, none⟩) 1 1)) = W2 at P Q Z ⊢
  have P2 := Box.alloc P (.cells #[.int .i64 700000, .int .i64 700007] 67)
  have y0 := P2.cell 0; have y1 := P2.cell 1; have y2 := P2.cell 2; have y3 := P2.cell 3; have y4 := P2.cell 4; have y5 := P2.cell 5
  simp only [List.getElem?_cons_zero, List.getElem?_cons_succ] at y0 y1 y2 y3 y4 y5
  have HR := Lib.hid (rd_lit elS [(700000, 700007)] W2 67 (0, 0) w2.heap.size Z (by simp [maxLen]))
  refine bodyPost_ret (v := aP ⟨7, 690000, 1, 3, 1⟩ (.slice (some ⟨w2.heap.size, 0, none⟩) 1 1)) (by simp [results, Tryd.results37, go_sem, y0, y1, y2, y3, y4, y5]) rfl ⟨_, rfl, HR.out, Q.alloc Q.size _⟩
end Pa
end Go.Proofs.YtdfdjampodkpgaaDoor
