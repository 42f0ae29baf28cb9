/- Package tag: rounds. -/
import Derived.Test.YtpddfoifgieghaaTagWalks
set_option linter.unusedVariables false
namespace Go.Proofs.Ytpddfoifgieghaa
open Go.RowKit
namespace Tg
def aS (v : S) : Value := .agg #[.int .u64 (wi v.a), .int .u64 (wi v.b), .int .u64 (wi v.c), .int .u64 (wi v.d)]
theorem round_any (B : Nat) (W w : World) (g : Nat) (v : S) (h : S4 B W w g v) : Calls Try.prog 33 #[.pointer (some ⟨g, 0, none⟩)] w fun e w' => e = .returned (.tuple #[]) ∧ S4 B W w' g (round v) := by
  have H := Lib.hid h; clear h
  go_enter Try.func33, Try.ntmps33
  go_wp2_with fail
  refine (mix01 B W _ g v H.out).mono ?_
  rintro en w1 ⟨rfl, h1⟩
  have H1 := Lib.hid h1; clear h1
  go_wp2_with fail
  refine (half0 B W _ g _ H1.out).mono ?_
  rintro en w2 ⟨rfl, h2⟩
  have H2 := Lib.hid h2; clear h2
  go_wp2_with fail
  refine (mix23 B W _ g _ H2.out).mono ?_
  rintro en w3 ⟨rfl, h3⟩
  have H3 := Lib.hid h3; clear h3
  go_wp2_with fail
  refine (mix03 B W _ g _ H3.out).mono ?_
  rintro en w4 ⟨rfl, h4⟩
  have H4 := Lib.hid h4; clear h4
  go_wp2_with fail
  refine (mix21 B W _ g _ H4.out).mono ?_
  rintro en w5 ⟨rfl, h5⟩
  have H5 := Lib.hid h5; clear h5
  go_wp2_with fail
  refine (half2 B W _ g _ H5.out).mono ?_
  rintro en w6 ⟨rfl, h6⟩
  have H6 := Lib.hid h6; clear h6
  go_wp2
  go_end0
  exact ⟨rfl, H6.out⟩
/-- three blocks of the call's own: what came in, the result, the state -/
def w3 (w : World) (v u : S) (t1 t2 : TypeId) : World := ((w.alloc (.cells #[.int .u64 (wi v.a), .int .u64 (wi v.b), .int .u64 (wi v.c), .int .u64 (wi v.d)] t1)).alloc (.cells #[.int .u64 0, .int .u64 0, .int .u64 0, .int .u64 0] t1)).alloc (.cells #[.int .u64 (wi u.a), .int .u64 (wi u.b), .int .u64 (wi u.c), .int .u64 (wi u.d)] t2)
theorem w3_st (w : World) (v u : S) (t1 t2 : TypeId) : S4 (w.heap.size + 1 + 1) (w3 w v u t1 t2) (w3 w v u t1 t2) (w.heap.size + 1 + 1) u := by
  have hs : ((w.alloc (.cells #[.int .u64 (wi v.a), .int .u64 (wi v.b), .int .u64 (wi v.c), .int .u64 (wi v.d)] t1)).alloc (.cells #[.int .u64 0, .int .u64 0, .int .u64 0, .int .u64 0] t1)).heap.size = w.heap.size + 1 + 1 := by simp
  unfold w3
  refine ⟨Below.refl _ _, Nat.le_refl _, by simp, ?_, ?_, ?_, ?_, fun j => ?_⟩
  · rw [← hs, World.cell?_alloc_mark]; rfl
  · rw [← hs, World.cell?_alloc_mark]; rfl
  · rw [← hs, World.cell?_alloc_mark]; rfl
  · rw [← hs, World.cell?_alloc_mark]; rfl
  · rw [← hs, World.frozen?_alloc_mark]; simp
theorem w3_below (w : World) (v u : S) (t1 t2 : TypeId) : Below w.heap.size w (w3 w v u t1 t2) := by
  unfold w3
  exact (((br w).alloc (Nat.le_refl _) _).alloc (by simp) _).alloc (by simp; omega) _
theorem w3_res (w : World) (v u : S) (t1 t2 : TypeId) (j : Nat) (hj : j < 4) : (w3 w v u t1 t2).cell? ⟨w.heap.size + 1, j, none⟩ = some (.int .u64 0) ∧ (w3 w v u t1 t2).frozen? ⟨w.heap.size + 1, j, none⟩ = false := by
  have hs : (w.alloc (.cells #[.int .u64 (wi v.a), .int .u64 (wi v.b), .int .u64 (wi v.c), .int .u64 (wi v.d)] t1)).heap.size = w.heap.size + 1 := by simp
  unfold w3
  have hb := (br ((w.alloc (.cells #[.int .u64 (wi v.a), .int .u64 (wi v.b), .int .u64 (wi v.c), .int .u64 (wi v.d)] t1)).alloc (.cells #[.int .u64 0, .int .u64 0, .int .u64 0, .int .u64 0] t1))).alloc (Nat.le_refl _) (.cells #[.int .u64 (wi u.a), .int .u64 (wi u.b), .int .u64 (wi u.c), .int .u64 (wi u.d)] t2)
  rw [hb.cell (p := ⟨w.heap.size + 1, j, none⟩) (by simp), hb.frozen (p := ⟨w.heap.size + 1, j, none⟩) (by simp)]
  rw [← hs, World.cell?_alloc_mark, World.frozen?_alloc_mark]
  refine ⟨?_, by simp⟩
  match j, hj with
  | 0, _ => rfl
  | 1, _ => rfl
  | 2, _ => rfl
  | 3, _ => rfl
theorem w3_frz (w : World) (v u : S) (t1 t2 : TypeId) (j : Nat) : (w3 w v u t1 t2).frozen? ⟨w.heap.size + 1, j, none⟩ = false := by
  have hs : (w.alloc (.cells #[.int .u64 (wi v.a), .int .u64 (wi v.b), .int .u64 (wi v.c), .int .u64 (wi v.d)] t1)).heap.size = w.heap.size + 1 := by simp
  unfold w3
  have hb := (br ((w.alloc (.cells #[.int .u64 (wi v.a), .int .u64 (wi v.b), .int .u64 (wi v.c), .int .u64 (wi v.d)] t1)).alloc (.cells #[.int .u64 0, .int .u64 0, .int .u64 0, .int .u64 0] t1))).alloc (Nat.le_refl _) (.cells #[.int .u64 (wi u.a), .int .u64 (wi u.b), .int .u64 (wi u.c), .int .u64 (wi u.d)] t2)
  rw [hb.frozen (p := ⟨w.heap.size + 1, j, none⟩) (by simp)]
  rw [← hs, World.frozen?_alloc_mark]
  simp
set_option maxHeartbeats 1000000 in
theorem rnd_any (v : S) (w : World) : Calls Try.prog 25 #[aS v] w fun e w' => e = .returned (aS (round v)) ∧ Below w.heap.size w w' := by
  unfold aS
  go_enter Try.func25, Try.ntmps25
  have hst := w3_st w v v 26 52
  have hbl := w3_below w v v 26 52
  have hrs := w3_res w v v 26 52
  have HST := Lib.hid hst; have HRS := Lib.hid hrs
  clear hst hrs
  go_wp2_with fail
  refine (round_any _ _ _ _ _ HST.out).mono ?_
  rintro en w6 ⟨rfl, h6⟩
  have r0 := HRS.out 0 (by omega); have r1 := HRS.out 1 (by omega); have r2 := HRS.out 2 (by omega); have r3 := HRS.out 3 (by omega)
  have k := fun j => h6.below.cell (p := ⟨w.heap.size + 1, j, none⟩) (Nat.lt_succ_self _)
  have kf := fun j => h6.below.frozen (p := ⟨w.heap.size + 1, j, none⟩) (Nat.lt_succ_self _)
  have x0 := (k 0).trans r0.1; have x1 := (k 1).trans r1.1; have x2 := (k 2).trans r2.1; have x3 := (k 3).trans r3.1
  have y0 := (kf 0).trans r0.2; have y1 := (kf 1).trans r1.2; have y2 := (kf 2).trans r2.2; have y3 := (kf 3).trans r3.2
  have d0 := h6.c0; have d1 := h6.c1; have d2 := h6.c2; have d3 := h6.c3
  have hB : Below w.heap.size w w6 := hbl.trans (h6.below.mono (by omega))
  have R0 : S4 (w.heap.size + 1) w6 w6 (w.heap.size + 1) ⟨0, 0, 0, 0⟩ := ⟨Below.refl _ _, Nat.le_refl _, by have := h6.below.size; have := h6.lt; omega, x0, x1, x2, x3, fun j => (kf j).trans (w3_frz w v _ _ _ j)⟩
  have RR := Lib.hid ((((R0.set0 (round v).a).set1 (round v).b).set2 (round v).c).set3 (round v).d)
  clear h6 r0 r1 r2 r3 k kf HST HRS hbl R0
  go_wp2
  have rr := RR.out
  generalize (((w6.setCell ⟨w.heap.size + 1, 0, none⟩ (.int .u64 (wi (round v).a))).setCell ⟨w.heap.size + 1, 1, none⟩ (.int .u64 (wi (round v).b))).setCell ⟨w.heap.size + 1, 2, none⟩ (.int .u64 (wi (round v).c))).setCell ⟨w.heap.size + 1, 3, none⟩ (.int .u64 (wi (round v).d)) = wf at *
  have z0 := rr.c0; have z1 := rr.c1; have z2 := rr.c2; have z3 := rr.c3
  simp only at z0 z1 z2 z3
  refine bodyPost_ret (v := aS (round v)) (by simp [results, Try.results25, go_sem, z0, z1, z2, z3, aS]) rfl ⟨rfl, hB.trans (rr.below.mono (by omega))⟩
end Tg
end Go.Proofs.Ytpddfoifgieghaa
