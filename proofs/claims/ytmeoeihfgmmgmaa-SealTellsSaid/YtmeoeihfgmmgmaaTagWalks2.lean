/- Package tag: rounds. -/
import Derived.Test.YtmeoeihfgmmgmaaTagWalks
set_option linter.unusedVariables false
namespace Go.Proofs.Ytmeoeihfgmmgmaa
open Go.RowKit
namespace Tg
def aS (v : S) : Value := .agg #[.int .u64 (wi v.a), .int .u64 (wi v.b), .int .u64 (wi v.c), .int .u64 (wi v.d)]
theorem round_any (B : Nat) (W w : World) (g : Nat) (v : S) (h : S4 B W w g v) : Calls Try.prog 41 #[.pointer (some ⟨g, 0, none⟩)] w fun e w' => e = .returned (.tuple #[]) ∧ S4 B W w' g (round v) := by
  have H := Lib.hid h; clear h
  go_enter Try.func41, Try.ntmps41
  go_wp2_with fail
  refine (mix01 B W _ g v H.out).mono ?_
  rintro en w1 ⟨rfl, h1⟩
  have H1 := Lib.hid h1; clear h1
  go_wp2_with fail
  refine (half0 B W _ g _ H1.out).mono ?_
  rintro en w2 ⟨rfl, h2⟩
  have H2 := Lib.hid h2; clear h2
  go_wp2_with fail
  refine (mix23 B W _ g _ H2.out).mono ?_
  rintro en w3 ⟨rfl, h3⟩
  have H3 := Lib.hid h3; clear h3
  go_wp2_with fail
  refine (mix03 B W _ g _ H3.out).mono ?_
  rintro en w4 ⟨rfl, h4⟩
  have H4 := Lib.hid h4; clear h4
  go_wp2_with fail
  refine (mix21 B W _ g _ H4.out).mono ?_
  rintro en w5 ⟨rfl, h5⟩
  have H5 := Lib.hid h5; clear h5
  go_wp2_with fail
  refine (half2 B W _ g _ H5.out).mono ?_
  rintro en w6 ⟨rfl, h6⟩
  have H6 := Lib.hid h6; clear h6
  go_wp2
  go_end0
  exact ⟨rfl, H6.out⟩
/-- three blocks of the call's own: what came in, the result, the state -/
def w3 (w : World) (v u : S) (t1 t2 : TypeId) : World := ((w.alloc (.cells #[.int .u64 (wi v.a), .int .u64 (wi v.b), .int .u64 (wi v.c), .int .u64 (wi v.d)] t1)).alloc (.cells #[.int .u64 0, .int .u64 0, .int .u64 0, .int .u64 0] t1)).alloc (.cells #[.int .u64 (wi u.a), .int .u64 (wi u.b), .int .u64 (wi u.c), .int .u64 (wi u.d)] t2)
theorem w3_st (w : World) (v u : S) (t1 t2 : TypeId) : S4 (w.heap.size + 1 + 1) (w3 w v u t1 t2) (w3 w v u t1 t2) (w.heap.size + 1 + 1) u := by
  have hs : ((w.alloc (.cells #[.int .u64 (wi v.a), .int .u64 (wi v.b), .int .u64 (wi v.c), .int .u64 (wi v.d)] t1)).alloc (.cells #[.int .u64 0, .int .u64 0, .int .u64 0, .int .u64 0] t1)).heap.size = w.heap.size + 1 + 1 := by simp
  unfold w3
  refine ⟨Below.refl _ _, Nat.le_refl _, by simp, ?_, ?_, ?_, ?_, fun j => ?_⟩
  · rw [← hs, World.cell?_alloc_mark]; rfl
  · rw [← hs, World.cell?_alloc_mark]; rfl
  · rw [← hs, World.cell?_alloc_mark]; rfl
  · rw [← hs, World.cell?_alloc_mark]; rfl
  · rw [← hs, World.frozen?_alloc_mark]; simp
theorem w3_below (w : World) (v u : S) (t1 t2 : TypeId) : Below w.heap.size w (w3 w v u t1 t2) := by
  unfold w3
  exact (((br w).alloc (Nat.le_refl _) _).alloc (by simp) _).alloc (by simp; omega) _
theorem w3_res (w : World) (v u : S) (t1 t2 : TypeId) (j : Nat) (hj : j < 4) : (w3 w v u t1 t2).cell? ⟨w.heap.size + 1, j, none⟩ = some (.int .u64 0) ∧ (w3 w v u t1 t2).frozen? ⟨w.heap.size + 1, j, none⟩ = false := by
  have hs : (w.alloc (.cells #[.int .u64 (wi v.a), .int .u64 (wi v.b), .int .u64 (wi v.c), .int .u64 (wi v.d)] t1)).heap.size = w.heap.size + 1 := by simp
  unfold w3
  have hb := (br ((w.alloc (.cells #[.int .u64 (wi v.a), .int .u64 (wi v.b), .int .u64 (wi v.c), .int .u64 (wi v.d)] t1)).alloc (.cells #[.int .u64 0, .int .u64 0, .int .u64 0, .int .u64 0] t1))).alloc (Nat.le_refl _) (.cells #[.int .u64 (wi u.a), .int .u64 (wi u.b), .int .u64 (wi u.c), .int .u64 (wi u.d)] t2)
  rw [hb.cell (p := ⟨w.heap.size + 1, j, none⟩) (by simp), hb.frozen (p := ⟨w.heap.size + 1, j, none⟩) (by simp)]
  rw [← hs, World.cell?_alloc_mark, World.frozen?_alloc_mark]
  refine ⟨?_, by simp⟩
  match j, hj with
  | 0, _ => rfl
  | 1, _ => rfl
  | 2, _ => rfl
  | 3, _ => rfl
theorem w3_frz (w : World) (v u : S) (t1 t2 : TypeId) (j : Nat) : (w3 w v u t1 t2).frozen? ⟨w.heap.size + 1, j, none⟩ = false := by
  have hs : (w.alloc (.cells #[.int .u64 (wi v.a), .int .u64 (wi v.b), .int .u64 (wi v.c), .int .u64 (wi v.d)] t1)).heap.size = w.heap.size + 1 := by simp
  unfold w3
  have hb := (br ((w.alloc (.cells #[.int .u64 (wi v.a), .int .u64 (wi v.b), .int .u64 (wi v.c), .int .u64 (wi v.d)] t1)).alloc (.cells #[.int .u64 0, .int .u64 0, .int .u64 0, .int .u64 0] t1))).alloc (Nat.le_refl _) (.cells #[.int .u64 (wi u.a), .int .u64 (wi u.b), .int .u64 (wi u.c), .int .u64 (wi u.d)] t2)
  rw [hb.frozen (p := ⟨w.heap.size + 1, j, none⟩) (by simp)]
  rw [← hs, World.frozen?_alloc_mark]
  simp
end Tg
end Go.Proofs.Ytmeoeihfgmmgmaa
