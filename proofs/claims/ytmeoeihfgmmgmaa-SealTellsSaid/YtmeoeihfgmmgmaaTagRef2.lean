/- The document's round, start, taking and finish. -/
import Derived.Test.YtmeoeihfgmmgmaaTagRef
import Derived.Test.YtmeoeihfgmmgmaaTagLaws2
import Derived.Deep.RegionHeld3
set_option linter.unusedVariables false
namespace Go.Proofs.Ytmeoeihfgmmgmaa
open Go.RowKit
namespace Tg
def two (w : World) (v : S) (t1 t2 : TypeId) : World := (w.alloc (.cells #[.int .u64 (wi v.a), .int .u64 (wi v.b), .int .u64 (wi v.c), .int .u64 (wi v.d)] t1)).alloc (.cells #[.int .u64 0, .int .u64 0, .int .u64 0, .int .u64 0] t2)
theorem two_v (w : World) (v : S) (t1 t2 : TypeId) : S4 w.heap.size w (two w v t1 t2) w.heap.size v := by
  unfold two; exact (st4 w v t1).next ((br _).alloc (Nat.le_refl _) _) (by simp)
theorem two_r (w : World) (v : S) (t1 t2 : TypeId) : S4 w.heap.size w (two w v t1 t2) (w.heap.size + 1) ⟨0, 0, 0, 0⟩ := by
  have hs : (w.alloc (.cells #[.int .u64 (wi v.a), .int .u64 (wi v.b), .int .u64 (wi v.c), .int .u64 (wi v.d)] t1)).heap.size = w.heap.size + 1 := by simp
  unfold two
  refine ⟨((br w).alloc (Nat.le_refl _) _).alloc (by simp) _, by omega, by simp, ?_, ?_, ?_, ?_, fun j => ?_⟩
  · rw [← hs, World.cell?_alloc_mark]; rfl
  · rw [← hs, World.cell?_alloc_mark]; rfl
  · rw [← hs, World.cell?_alloc_mark]; rfl
  · rw [← hs, World.cell?_alloc_mark]; rfl
  · rw [← hs, World.frozen?_alloc_mark]; simp
theorem S4.far {B : Nat} {W w : World} {g r : Nat} {v : S} (h : S4 B W w r v) (hne : g ≠ r) (hg : B ≤ g) (k : Nat) (x : Value) : S4 B W (w.setCell ⟨g, k, none⟩ x) r v := by
  have e : ∀ j, (⟨g, k, none⟩ : Addr) ≠ ⟨r, j, none⟩ := fun j y => by injection y with y; exact hne y
  refine ⟨h.below.setCell hg _, h.ge, by have := h.lt; simpa using this, ?_, ?_, ?_, ?_, fun j => ?_⟩
  · rw [World.cell?_setCell_other _ _ _ _ (e 0)]; exact h.c0
  · rw [World.cell?_setCell_other _ _ _ _ (e 1)]; exact h.c1
  · rw [World.cell?_setCell_other _ _ _ _ (e 2)]; exact h.c2
  · rw [World.cell?_setCell_other _ _ _ _ (e 3)]; exact h.c3
  · rw [World.frozen?_setCell]; exact h.fr j
theorem S4.far4 {B : Nat} {W w : World} {g r : Nat} {v : S} (h : S4 B W w r v) (hne : g ≠ r) (hg : B ≤ g) (u : S) : S4 B W (set4 w g u) r v :=
  (((h.far hne hg 0 _).far hne hg 1 _).far hne hg 2 _).far hne hg 3 _
set_option maxHeartbeats 2000000 in
theorem roundOf_any (v : S) (w : World) : Calls Try.prog 43 #[aS v] w fun e w' => e = .returned (aS (round v)) ∧ Below w.heap.size w w' := by
  have G := two_v w v 59 59
  have R := Lib.hid (two_r w v 59 59)
  obtain ⟨a, b, c, d⟩ := v
  obtain ⟨a1, h1⟩ : ∃ x, a + b = x := ⟨_, rfl⟩
  obtain ⟨b1, h2⟩ : ∃ x, b.rotateLeft 13 ^^^ a1 = x := ⟨_, rfl⟩
  obtain ⟨a2, h3⟩ : ∃ x, a1.rotateLeft 32 = x := ⟨_, rfl⟩
  obtain ⟨c1, h4⟩ : ∃ x, c + d = x := ⟨_, rfl⟩
  obtain ⟨d1, h5⟩ : ∃ x, d.rotateLeft 16 ^^^ c1 = x := ⟨_, rfl⟩
  obtain ⟨a3, h6⟩ : ∃ x, a2 + d1 = x := ⟨_, rfl⟩
  obtain ⟨d2, h7⟩ : ∃ x, d1.rotateLeft 21 ^^^ a3 = x := ⟨_, rfl⟩
  obtain ⟨c2, h8⟩ : ∃ x, c1 + b1 = x := ⟨_, rfl⟩
  obtain ⟨b2, h9⟩ : ∃ x, b1.rotateLeft 17 ^^^ c2 = x := ⟨_, rfl⟩
  obtain ⟨c3, h10⟩ : ∃ x, c2.rotateLeft 32 = x := ⟨_, rfl⟩
  have hr : round ⟨a, b, c, d⟩ = ⟨a3, b2, c3, d2⟩ := by rw [← h10, ← h9, ← h8, ← h7, ← h6, ← h5, ← h4, ← h3, ← h2, ← h1]; rfl
  have s1 := add_w a b; have s2 := add_w c d; have s3 := add_w a2 d1; have s4 := add_w c1 b1
  rw [h1] at s1; rw [h4] at s2; rw [h6] at s3; rw [h8] at s4
  have H2 := Lib.hid h2; have H3 := Lib.hid h3; have H5 := Lib.hid h5; have H7 := Lib.hid h7; have H9 := Lib.hid h9; have H10 := Lib.hid h10
  rw [hr]
  clear h1 h2 h3 h4 h5 h6 h7 h8 h9 h10 hr
  unfold aS
  have g0 := G.c0; have g1 := G.c1; have g2 := G.c2; have g3 := G.c3
  unfold two at g0 g1 g2 g3
  clear G
  go_enter Try.func43, Try.ntmps43
  go_wp2_with fail
  go_quiet (fail)
  clear g0 g1 g2 g3
  go_wp2_with fail
  refine (turned_any b 13 (by omega) _).mono ?_
  rintro en w1 ⟨rfl, hb⟩
  have R1 := Lib.hid ((R.out.dr nq).next hb (by first | exact R.out.below.size | (simp)))
  clear hb
  go_wp2_with fail
  refine (xored_any (b.rotateLeft 13) a1 _).mono ?_
  rintro en w2 ⟨rfl, hb⟩
  rw [H2.out]
  have R2 := Lib.hid (R1.out.next hb (by first | exact R1.out.below.size | (simp)))
  clear hb
  go_wp2_with fail
  refine (turned_any a1 32 (by omega) _).mono ?_
  rintro en w3 ⟨rfl, hb⟩
  rw [H3.out]
  have R3 := Lib.hid (R2.out.next hb (by first | exact R2.out.below.size | (simp)))
  clear hb
  go_wp2_with fail
  refine (turned_any d 16 (by omega) _).mono ?_
  rintro en w4 ⟨rfl, hb⟩
  have R4 := Lib.hid (R3.out.next hb (by first | exact R3.out.below.size | (simp)))
  clear hb
  go_wp2_with fail
  refine (xored_any (d.rotateLeft 16) c1 _).mono ?_
  rintro en w5 ⟨rfl, hb⟩
  rw [H5.out]
  have R5 := Lib.hid (R4.out.next hb (by first | exact R4.out.below.size | (simp)))
  clear hb
  go_wp2_with fail
  refine (turned_any d1 21 (by omega) _).mono ?_
  rintro en w6 ⟨rfl, hb⟩
  have R6 := Lib.hid (R5.out.next hb (by first | exact R5.out.below.size | (simp)))
  clear hb
  go_wp2_with fail
  refine (xored_any (d1.rotateLeft 21) a3 _).mono ?_
  rintro en w7 ⟨rfl, hb⟩
  rw [H7.out]
  have R7 := Lib.hid (R6.out.next hb (by first | exact R6.out.below.size | (simp)))
  clear hb
  go_wp2_with fail
  refine (turned_any b1 17 (by omega) _).mono ?_
  rintro en w8 ⟨rfl, hb⟩
  have R8 := Lib.hid (R7.out.next hb (by first | exact R7.out.below.size | (simp)))
  clear hb
  go_wp2_with fail
  refine (xored_any (b1.rotateLeft 17) c2 _).mono ?_
  rintro en w9 ⟨rfl, hb⟩
  rw [H9.out]
  have R9 := Lib.hid (R8.out.next hb (by first | exact R8.out.below.size | (simp)))
  clear hb
  go_wp2_with fail
  refine (turned_any c2 32 (by omega) _).mono ?_
  rintro en w10 ⟨rfl, hb⟩
  rw [H10.out]
  have R10 := Lib.hid (R9.out.next hb (by first | exact R9.out.below.size | (simp)))
  clear hb
  have r := R10.out
  have RR := Lib.hid (r.put ⟨a3, b2, c3, d2⟩)
  have x0 := r.c0; have x1 := r.c1; have x2 := r.c2; have x3 := r.c3
  have y0 := r.fr 0; have y1 := r.fr 1; have y2 := r.fr 2; have y3 := r.fr 3
  simp only at x0 x1 x2 x3
  have z : wi 0 = 0 := rfl
  rw [z] at x0 x1 x2 x3
  clear R R1 R2 R3 R4 R5 R6 R7 R8 R9 R10 r H2 H3 H5 H7 H9 H10 s1 s2 s3 s4
  go_wp2
  have rr := RR.out
  unfold set4 at rr
  simp only at rr
  generalize (((w10.setCell ⟨w.heap.size + 1, 0, none⟩ (.int .u64 (wi a3))).setCell ⟨w.heap.size + 1, 1, none⟩ (.int .u64 (wi b2))).setCell ⟨w.heap.size + 1, 2, none⟩ (.int .u64 (wi c3))).setCell ⟨w.heap.size + 1, 3, none⟩ (.int .u64 (wi d2)) = wf at *
  have z0 := rr.c0; have z1 := rr.c1; have z2 := rr.c2; have z3 := rr.c3
  simp only at z0 z1 z2 z3
  refine bodyPost_ret (v := .agg #[.int .u64 (wi a3), .int .u64 (wi b2), .int .u64 (wi c3), .int .u64 (wi d2)]) (by simp [results, Try.results43, go_sem, z0, z1, z2, z3]) rfl ⟨rfl, rr.below⟩
end Tg
end Go.Proofs.Ytmeoeihfgmmgmaa
