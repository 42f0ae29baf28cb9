/- Package tag: back, start, take, finish. -/
import Derived.Test.YtmeoeihfgmmgmaaTagWalks2
import Derived.LoopN
import Derived.Deep.CutRange
set_option linter.unusedVariables false
namespace Go.Proofs.Ytmeoeihfgmmgmaa
open Go.RowKit
namespace Tg
set_option maxHeartbeats 1000000 in
theorem take_any (v : S) (m : W64) (w : World) : Calls Try.prog 35 #[aS v, .int .u64 (wi m)] w fun e w' => e = .returned (aS (take v m)) ∧ Below w.heap.size w w' := by
  unfold aS
  have e1 := xor_w v.d m
  go_enter Try.func35, Try.ntmps35
  have hst := w3_st w v ⟨v.a, v.b, v.c, v.d ^^^ m⟩ 59 66
  have hbl := w3_below w v ⟨v.a, v.b, v.c, v.d ^^^ m⟩ 59 66
  have hrs := w3_res w v ⟨v.a, v.b, v.c, v.d ^^^ m⟩ 59 66
  have HST := Lib.hid hst; have HRS := Lib.hid hrs
  clear hst hrs
  go_wp2
  refine wp_loop_rounds 3 ?_
  rw [rounds_succ]
  go_wp2_with fail
  refine (round_any _ _ _ _ _ HST.out).mono ?_
  rintro en w1 ⟨rfl, h1⟩
  have H1 := Lib.hid h1; clear h1
  go_wp2
  rw [rounds_succ]
  go_wp2_with fail
  refine (round_any _ _ _ _ _ H1.out).mono ?_
  rintro en w2 ⟨rfl, h2⟩
  have b0 := h2.c0; have p0 := h2.fr 0
  have b1 := h2.c1; have b2 := h2.c2; have b3 := h2.c3
  obtain ⟨R, hR⟩ : ∃ R, round (round ⟨v.a, v.b, v.c, v.d ^^^ m⟩) = R := ⟨_, rfl⟩
  rw [hR] at h2 b0 b1 b2 b3
  have e2 := xor_w R.a m
  have hT : take v m = ⟨R.a ^^^ m, R.b, R.c, R.d⟩ := by unfold take; rw [hR]
  have h6 := h2.set0 (R.a ^^^ m)
  rw [← hT] at h6
  have HT := Lib.hid hT
  clear hR hT
  go_wp2
  rw [rounds_succ]
  have H2 := Lib.hid h2; clear h2
  have H6 := Lib.hid h6; clear h6
  go_upto_region 8 with (fail)
  have h6 := H6.out
  generalize w2.setCell ⟨w.heap.size + 1 + 1, 0, none⟩ (.int .u64 (wi (R.a ^^^ m))) = w6 at *
  clear b0 b1 b2 b3 p0 H2 H6 e2
  have r0 := HRS.out 0 (by omega); have r1 := HRS.out 1 (by omega); have r2 := HRS.out 2 (by omega); have r3 := HRS.out 3 (by omega)
  have k := fun j => h6.below.cell (p := ⟨w.heap.size + 1, j, none⟩) (Nat.lt_succ_self _)
  have kf := fun j => h6.below.frozen (p := ⟨w.heap.size + 1, j, none⟩) (Nat.lt_succ_self _)
  have x0 := (k 0).trans r0.1; have x1 := (k 1).trans r1.1; have x2 := (k 2).trans r2.1; have x3 := (k 3).trans r3.1
  have y0 := (kf 0).trans r0.2; have y1 := (kf 1).trans r1.2; have y2 := (kf 2).trans r2.2; have y3 := (kf 3).trans r3.2
  have d0 := h6.c0; have d1 := h6.c1; have d2 := h6.c2; have d3 := h6.c3
  have hB : Below w.heap.size w w6 := hbl.trans (h6.below.mono (by omega))
  have R0 : S4 (w.heap.size + 1) w6 w6 (w.heap.size + 1) ⟨0, 0, 0, 0⟩ := ⟨Below.refl _ _, Nat.le_refl _, by have := h6.below.size; have := h6.lt; omega, x0, x1, x2, x3, fun j => (kf j).trans (w3_frz w v _ _ _ j)⟩
  have RR := Lib.hid ((((R0.set0 (take v m).a).set1 (take v m).b).set2 (take v m).c).set3 (take v m).d)
  clear h6 r0 r1 r2 r3 k kf HST HRS hbl R0
  go_wp2
  have rr := RR.out
  generalize (((w6.setCell ⟨w.heap.size + 1, 0, none⟩ (.int .u64 (wi (take v m).a))).setCell ⟨w.heap.size + 1, 1, none⟩ (.int .u64 (wi (take v m).b))).setCell ⟨w.heap.size + 1, 2, none⟩ (.int .u64 (wi (take v m).c))).setCell ⟨w.heap.size + 1, 3, none⟩ (.int .u64 (wi (take v m).d)) = wf at *
  have z0 := rr.c0; have z1 := rr.c1; have z2 := rr.c2; have z3 := rr.c3
  simp only at z0 z1 z2 z3
  refine bodyPost_ret (v := aS (take v m)) (by simp [results, Try.results35, go_sem, z0, z1, z2, z3, aS]) rfl ⟨rfl, hB.trans (rr.below.mono (by omega))⟩
end Tg
end Go.Proofs.Ytmeoeihfgmmgmaa
