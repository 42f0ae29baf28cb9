/- Package tag: the turns and the steps of a round. -/
import Derived.Test.YtmeoeihfgmmgmaaProg
import Derived.Test.YtmeoeihfgmmgmaaTagPlain
import Derived.Test.YtmeoeihfgmmgmaaBase2
import Derived.Deep.RegionWith
set_option linter.unusedVariables false
namespace Go.Proofs.Ytmeoeihfgmmgmaa
open Go.RowKit
namespace Tg
theorem rot13 (x : W64) (w : World) : Calls Try.prog 47 #[.int .u64 (wi x), .int .i64 13] w fun e w' => e = .returned (.int .u64 (wi (x.rotateLeft 13))) ∧ w = w' := by
  have e1 : IntKind.u64.wrap (wi x * 8192) = wi (x <<< 13) := by simpa using shl_w x 13
  have e2 : wi x / (2251799813685248 : Int) = wi (x >>> 51) := by have h := shr_w x 51; rw [show (2 : Int) ^ 51 = 2251799813685248 by decide] at h; exact h
  have e3 : bits .or .u64 (wi (x <<< 13)) (wi (x >>> 51)) = wi (x.rotateLeft 13) := by rw [or_w, ← rotl_w x 13 (by omega)]
  have hb := wi_bd x
  have e0 : bits .and .u64 13 63 = 13 := by decide +kernel
  go_enter Try.func47, Try.ntmps47
  go_wp2
  go_ret
  refine ⟨?_, rfl⟩
  first | rfl | (show Ending.returned (.int .u64 (bits .or .u64 (wi (x <<< 13)) (wi x / 2251799813685248))) = _; rw [e2, e3])
theorem rot16 (x : W64) (w : World) : Calls Try.prog 47 #[.int .u64 (wi x), .int .i64 16] w fun e w' => e = .returned (.int .u64 (wi (x.rotateLeft 16))) ∧ w = w' := by
  have e1 : IntKind.u64.wrap (wi x * 65536) = wi (x <<< 16) := by simpa using shl_w x 16
  have e2 : wi x / (281474976710656 : Int) = wi (x >>> 48) := by have h := shr_w x 48; rw [show (2 : Int) ^ 48 = 281474976710656 by decide] at h; exact h
  have e3 : bits .or .u64 (wi (x <<< 16)) (wi (x >>> 48)) = wi (x.rotateLeft 16) := by rw [or_w, ← rotl_w x 16 (by omega)]
  have hb := wi_bd x
  have e0 : bits .and .u64 16 63 = 16 := by decide +kernel
  go_enter Try.func47, Try.ntmps47
  go_wp2
  go_ret
  refine ⟨?_, rfl⟩
  first | rfl | (show Ending.returned (.int .u64 (bits .or .u64 (wi (x <<< 16)) (wi x / 281474976710656))) = _; rw [e2, e3])
theorem rot17 (x : W64) (w : World) : Calls Try.prog 47 #[.int .u64 (wi x), .int .i64 17] w fun e w' => e = .returned (.int .u64 (wi (x.rotateLeft 17))) ∧ w = w' := by
  have e1 : IntKind.u64.wrap (wi x * 131072) = wi (x <<< 17) := by simpa using shl_w x 17
  have e2 : wi x / (140737488355328 : Int) = wi (x >>> 47) := by have h := shr_w x 47; rw [show (2 : Int) ^ 47 = 140737488355328 by decide] at h; exact h
  have e3 : bits .or .u64 (wi (x <<< 17)) (wi (x >>> 47)) = wi (x.rotateLeft 17) := by rw [or_w, ← rotl_w x 17 (by omega)]
  have hb := wi_bd x
  have e0 : bits .and .u64 17 63 = 17 := by decide +kernel
  go_enter Try.func47, Try.ntmps47
  go_wp2
  go_ret
  refine ⟨?_, rfl⟩
  first | rfl | (show Ending.returned (.int .u64 (bits .or .u64 (wi (x <<< 17)) (wi x / 140737488355328))) = _; rw [e2, e3])
theorem rot21 (x : W64) (w : World) : Calls Try.prog 47 #[.int .u64 (wi x), .int .i64 21] w fun e w' => e = .returned (.int .u64 (wi (x.rotateLeft 21))) ∧ w = w' := by
  have e1 : IntKind.u64.wrap (wi x * 2097152) = wi (x <<< 21) := by simpa using shl_w x 21
  have e2 : wi x / (8796093022208 : Int) = wi (x >>> 43) := by have h := shr_w x 43; rw [show (2 : Int) ^ 43 = 8796093022208 by decide] at h; exact h
  have e3 : bits .or .u64 (wi (x <<< 21)) (wi (x >>> 43)) = wi (x.rotateLeft 21) := by rw [or_w, ← rotl_w x 21 (by omega)]
  have hb := wi_bd x
  have e0 : bits .and .u64 21 63 = 21 := by decide +kernel
  go_enter Try.func47, Try.ntmps47
  go_wp2
  go_ret
  refine ⟨?_, rfl⟩
  first | rfl | (show Ending.returned (.int .u64 (bits .or .u64 (wi (x <<< 21)) (wi x / 8796093022208))) = _; rw [e2, e3])
theorem rot32 (x : W64) (w : World) : Calls Try.prog 47 #[.int .u64 (wi x), .int .i64 32] w fun e w' => e = .returned (.int .u64 (wi (x.rotateLeft 32))) ∧ w = w' := by
  have e1 : IntKind.u64.wrap (wi x * 4294967296) = wi (x <<< 32) := by simpa using shl_w x 32
  have e2 : wi x / (4294967296 : Int) = wi (x >>> 32) := by have h := shr_w x 32; rw [show (2 : Int) ^ 32 = 4294967296 by decide] at h; exact h
  have e3 : bits .or .u64 (wi (x <<< 32)) (wi (x >>> 32)) = wi (x.rotateLeft 32) := by rw [or_w, ← rotl_w x 32 (by omega)]
  have hb := wi_bd x
  have e0 : bits .and .u64 32 63 = 32 := by decide +kernel
  go_enter Try.func47, Try.ntmps47
  go_wp2
  go_ret
  refine ⟨?_, rfl⟩
  first | rfl | (show Ending.returned (.int .u64 (bits .or .u64 (wi (x <<< 32)) (wi x / 4294967296))) = _; rw [e2, e3])
theorem rotm13 (x : W64) (w : World) : Calls Try.prog 47 #[.int .u64 (wi x), .int .i64 (-13)] w fun e w' => e = .returned (.int .u64 (wi (x.rotateLeft 51))) ∧ w = w' := by
  have e1 : IntKind.u64.wrap (wi x * 2251799813685248) = wi (x <<< 51) := by simpa using shl_w x 51
  have e2 : wi x / (8192 : Int) = wi (x >>> 13) := by have h := shr_w x 13; rw [show (2 : Int) ^ 13 = 8192 by decide] at h; exact h
  have e3 : bits .or .u64 (wi (x <<< 51)) (wi (x >>> 13)) = wi (x.rotateLeft 51) := by rw [or_w, ← rotl_w x 51 (by omega)]
  have hb := wi_bd x
  have e0 : bits .and .u64 (IntKind.u64.wrap (-13)) 63 = 51 := by decide +kernel
  go_enter Try.func47, Try.ntmps47
  go_wp2
  go_ret
  refine ⟨?_, rfl⟩
  first | rfl | (show Ending.returned (.int .u64 (bits .or .u64 (wi (x <<< 51)) (wi x / 8192))) = _; rw [e2, e3])
theorem rotm16 (x : W64) (w : World) : Calls Try.prog 47 #[.int .u64 (wi x), .int .i64 (-16)] w fun e w' => e = .returned (.int .u64 (wi (x.rotateLeft 48))) ∧ w = w' := by
  have e1 : IntKind.u64.wrap (wi x * 281474976710656) = wi (x <<< 48) := by simpa using shl_w x 48
  have e2 : wi x / (65536 : Int) = wi (x >>> 16) := by have h := shr_w x 16; rw [show (2 : Int) ^ 16 = 65536 by decide] at h; exact h
  have e3 : bits .or .u64 (wi (x <<< 48)) (wi (x >>> 16)) = wi (x.rotateLeft 48) := by rw [or_w, ← rotl_w x 48 (by omega)]
  have hb := wi_bd x
  have e0 : bits .and .u64 (IntKind.u64.wrap (-16)) 63 = 48 := by decide +kernel
  go_enter Try.func47, Try.ntmps47
  go_wp2
  go_ret
  refine ⟨?_, rfl⟩
  first | rfl | (show Ending.returned (.int .u64 (bits .or .u64 (wi (x <<< 48)) (wi x / 65536))) = _; rw [e2, e3])
theorem rotm17 (x : W64) (w : World) : Calls Try.prog 47 #[.int .u64 (wi x), .int .i64 (-17)] w fun e w' => e = .returned (.int .u64 (wi (x.rotateLeft 47))) ∧ w = w' := by
  have e1 : IntKind.u64.wrap (wi x * 140737488355328) = wi (x <<< 47) := by simpa using shl_w x 47
  have e2 : wi x / (131072 : Int) = wi (x >>> 17) := by have h := shr_w x 17; rw [show (2 : Int) ^ 17 = 131072 by decide] at h; exact h
  have e3 : bits .or .u64 (wi (x <<< 47)) (wi (x >>> 17)) = wi (x.rotateLeft 47) := by rw [or_w, ← rotl_w x 47 (by omega)]
  have hb := wi_bd x
  have e0 : bits .and .u64 (IntKind.u64.wrap (-17)) 63 = 47 := by decide +kernel
  go_enter Try.func47, Try.ntmps47
  go_wp2
  go_ret
  refine ⟨?_, rfl⟩
  first | rfl | (show Ending.returned (.int .u64 (bits .or .u64 (wi (x <<< 47)) (wi x / 131072))) = _; rw [e2, e3])
theorem rotm21 (x : W64) (w : World) : Calls Try.prog 47 #[.int .u64 (wi x), .int .i64 (-21)] w fun e w' => e = .returned (.int .u64 (wi (x.rotateLeft 43))) ∧ w = w' := by
  have e1 : IntKind.u64.wrap (wi x * 8796093022208) = wi (x <<< 43) := by simpa using shl_w x 43
  have e2 : wi x / (2097152 : Int) = wi (x >>> 21) := by have h := shr_w x 21; rw [show (2 : Int) ^ 21 = 2097152 by decide] at h; exact h
  have e3 : bits .or .u64 (wi (x <<< 43)) (wi (x >>> 21)) = wi (x.rotateLeft 43) := by rw [or_w, ← rotl_w x 43 (by omega)]
  have hb := wi_bd x
  have e0 : bits .and .u64 (IntKind.u64.wrap (-21)) 63 = 43 := by decide +kernel
  go_enter Try.func47, Try.ntmps47
  go_wp2
  go_ret
  refine ⟨?_, rfl⟩
  first | rfl | (show Ending.returned (.int .u64 (bits .or .u64 (wi (x <<< 43)) (wi x / 2097152))) = _; rw [e2, e3])
structure S4 (B : Nat) (W w : World) (g : Nat) (v : S) : Prop where
  below : Below B W w
  ge : B ≤ g
  lt : g < w.heap.size
  c0 : w.cell? ⟨g, 0, none⟩ = some (.int .u64 (wi v.a))
  c1 : w.cell? ⟨g, 1, none⟩ = some (.int .u64 (wi v.b))
  c2 : w.cell? ⟨g, 2, none⟩ = some (.int .u64 (wi v.c))
  c3 : w.cell? ⟨g, 3, none⟩ = some (.int .u64 (wi v.d))
  fr : ∀ j, w.frozen? ⟨g, j, none⟩ = false
section
variable {B : Nat} {W w : World} {g : Nat} {v : S}
theorem S4.dr (h : S4 B W w g v) (m : Nat) : S4 B W (w.drewN m) g v := ⟨⟨h.below.os, h.below.tape, h.below.output, h.below.size, h.below.block⟩, h.ge, h.lt, h.c0, h.c1, h.c2, h.c3, h.fr⟩
theorem cne {g i j : Nat} (h : i ≠ j) : (⟨g, i, none⟩ : Addr) ≠ ⟨g, j, none⟩ := fun e => by injection e; omega
theorem S4.set0 (h : S4 B W w g v) (x : W64) : S4 B W (w.setCell ⟨g, 0, none⟩ (.int .u64 (wi x))) g ⟨x, v.b, v.c, v.d⟩ :=
  ⟨h.below.setCell h.ge _, h.ge, by have := h.lt; simpa using this, World.cell?_setCell_same w _ _ h.c0, (World.cell?_setCell_other w _ _ _ (cne (by omega))).trans h.c1, (World.cell?_setCell_other w _ _ _ (cne (by omega))).trans h.c2, (World.cell?_setCell_other w _ _ _ (cne (by omega))).trans h.c3, fun j => by rw [World.frozen?_setCell]; exact h.fr j⟩
theorem S4.set1 (h : S4 B W w g v) (x : W64) : S4 B W (w.setCell ⟨g, 1, none⟩ (.int .u64 (wi x))) g ⟨v.a, x, v.c, v.d⟩ :=
  ⟨h.below.setCell h.ge _, h.ge, by have := h.lt; simpa using this, (World.cell?_setCell_other w _ _ _ (cne (by omega))).trans h.c0, World.cell?_setCell_same w _ _ h.c1, (World.cell?_setCell_other w _ _ _ (cne (by omega))).trans h.c2, (World.cell?_setCell_other w _ _ _ (cne (by omega))).trans h.c3, fun j => by rw [World.frozen?_setCell]; exact h.fr j⟩
theorem S4.set2 (h : S4 B W w g v) (x : W64) : S4 B W (w.setCell ⟨g, 2, none⟩ (.int .u64 (wi x))) g ⟨v.a, v.b, x, v.d⟩ :=
  ⟨h.below.setCell h.ge _, h.ge, by have := h.lt; simpa using this, (World.cell?_setCell_other w _ _ _ (cne (by omega))).trans h.c0, (World.cell?_setCell_other w _ _ _ (cne (by omega))).trans h.c1, World.cell?_setCell_same w _ _ h.c2, (World.cell?_setCell_other w _ _ _ (cne (by omega))).trans h.c3, fun j => by rw [World.frozen?_setCell]; exact h.fr j⟩
theorem S4.set3 (h : S4 B W w g v) (x : W64) : S4 B W (w.setCell ⟨g, 3, none⟩ (.int .u64 (wi x))) g ⟨v.a, v.b, v.c, x⟩ :=
  ⟨h.below.setCell h.ge _, h.ge, by have := h.lt; simpa using this, (World.cell?_setCell_other w _ _ _ (cne (by omega))).trans h.c0, (World.cell?_setCell_other w _ _ _ (cne (by omega))).trans h.c1, (World.cell?_setCell_other w _ _ _ (cne (by omega))).trans h.c2, World.cell?_setCell_same w _ _ h.c3, fun j => by rw [World.frozen?_setCell]; exact h.fr j⟩
end
set_option maxHeartbeats 1000000 in
theorem half0 (B : Nat) (W w : World) (g : Nat) (v : S) (h : S4 B W w g v) : Calls Try.prog 45 #[.pointer (some ⟨g, 0, none⟩), .int .i64 0] w fun e w' => e = .returned (.tuple #[]) ∧ S4 B W w' g ⟨v.a.rotateLeft 32, v.b, v.c, v.d⟩ := by
  obtain ⟨v0, v1, v2, v3⟩ := v
  have H := Lib.hid h
  obtain ⟨hb, hge, hlt, c0, c1, c2, c3, fr⟩ := h
  have f0 := fr 0; have f1 := fr 1; have f2 := fr 2; have f3 := fr 3
  clear fr hb hge hlt
  simp only at c0 c1 c2 c3
  go_enter Try.func45, Try.ntmps45
  go_wp2_with fail
  go_region_with ((go_at_call 47; refine (rot32 _ _).mono ?_; rintro en wq ⟨rfl, he⟩; subst he))
  all_goals
    go_wp2
    go_end0
    refine ⟨rfl, ?_⟩
    exact (H.out.set0 _).dr 1
set_option maxHeartbeats 1000000 in
theorem half2 (B : Nat) (W w : World) (g : Nat) (v : S) (h : S4 B W w g v) : Calls Try.prog 45 #[.pointer (some ⟨g, 0, none⟩), .int .i64 2] w fun e w' => e = .returned (.tuple #[]) ∧ S4 B W w' g ⟨v.a, v.b, v.c.rotateLeft 32, v.d⟩ := by
  obtain ⟨v0, v1, v2, v3⟩ := v
  have H := Lib.hid h
  obtain ⟨hb, hge, hlt, c0, c1, c2, c3, fr⟩ := h
  have f0 := fr 0; have f1 := fr 1; have f2 := fr 2; have f3 := fr 3
  clear fr hb hge hlt
  simp only at c0 c1 c2 c3
  go_enter Try.func45, Try.ntmps45
  go_wp2_with fail
  go_region_with ((go_at_call 47; refine (rot32 _ _).mono ?_; rintro en wq ⟨rfl, he⟩; subst he))
  all_goals
    go_wp2
    go_end0
    refine ⟨rfl, ?_⟩
    exact (H.out.set2 _).dr 1
set_option maxHeartbeats 1000000 in
theorem mix01 (B : Nat) (W w : World) (g : Nat) (v : S) (h : S4 B W w g v) : Calls Try.prog 44 #[.pointer (some ⟨g, 0, none⟩), .int .i64 0, .int .i64 1, .int .i64 13] w fun e w' => e = .returned (.tuple #[]) ∧ S4 B W w' g ⟨v.a + v.b, v.b.rotateLeft 13 ^^^ (v.a + v.b), v.c, v.d⟩ := by
  obtain ⟨v0, v1, v2, v3⟩ := v
  have H := Lib.hid h
  obtain ⟨hb, hge, hlt, c0, c1, c2, c3, fr⟩ := h
  have f0 := fr 0; have f1 := fr 1; have f2 := fr 2; have f3 := fr 3
  clear fr hb hge hlt
  simp only at c0 c1 c2 c3
  have e1 := add_w v0 v1
  have e2 := xor_w (v1.rotateLeft 13) (v0 + v1)
  go_enter Try.func44, Try.ntmps44
  go_wp2_with fail
  go_region_with (fail)
  all_goals
    go_wp2_with fail
    have h1 : S4 B W ((w.setCell ⟨g, 0, none⟩ (.int .u64 (wi (v0 + v1)))).drew) g ⟨v0 + v1, v1, v2, v3⟩ := (H.out.set0 (v0 + v1)).dr 1
    generalize (w.setCell ⟨g, 0, none⟩ (.int .u64 (wi (v0 + v1)))).drew = w1 at *
    have d0 := h1.c0; have d1 := h1.c1; have d2 := h1.c2; have d3 := h1.c3
    have q0 := h1.fr 0; have q1 := h1.fr 1; have q2 := h1.fr 2; have q3 := h1.fr 3
    have H1 := Lib.hid h1
    clear h1 H c0 c1 c2 c3 f0 f1 f2 f3
    simp only at d0 d1 d2 d3
    go_region_with ((go_at_call 47; refine (rot13 _ _).mono ?_; rintro en wq ⟨rfl, he⟩; subst he))
    all_goals
      go_wp2
      go_end0
      refine ⟨rfl, ?_⟩
      exact (H1.out.set1 _).dr 1
set_option maxHeartbeats 1000000 in
theorem mix23 (B : Nat) (W w : World) (g : Nat) (v : S) (h : S4 B W w g v) : Calls Try.prog 44 #[.pointer (some ⟨g, 0, none⟩), .int .i64 2, .int .i64 3, .int .i64 16] w fun e w' => e = .returned (.tuple #[]) ∧ S4 B W w' g ⟨v.a, v.b, v.c + v.d, v.d.rotateLeft 16 ^^^ (v.c + v.d)⟩ := by
  obtain ⟨v0, v1, v2, v3⟩ := v
  have H := Lib.hid h
  obtain ⟨hb, hge, hlt, c0, c1, c2, c3, fr⟩ := h
  have f0 := fr 0; have f1 := fr 1; have f2 := fr 2; have f3 := fr 3
  clear fr hb hge hlt
  simp only at c0 c1 c2 c3
  have e1 := add_w v2 v3
  have e2 := xor_w (v3.rotateLeft 16) (v2 + v3)
  go_enter Try.func44, Try.ntmps44
  go_wp2_with fail
  go_region_with (fail)
  all_goals
    go_wp2_with fail
    have h1 : S4 B W ((w.setCell ⟨g, 2, none⟩ (.int .u64 (wi (v2 + v3)))).drew) g ⟨v0, v1, v2 + v3, v3⟩ := (H.out.set2 (v2 + v3)).dr 1
    generalize (w.setCell ⟨g, 2, none⟩ (.int .u64 (wi (v2 + v3)))).drew = w1 at *
    have d0 := h1.c0; have d1 := h1.c1; have d2 := h1.c2; have d3 := h1.c3
    have q0 := h1.fr 0; have q1 := h1.fr 1; have q2 := h1.fr 2; have q3 := h1.fr 3
    have H1 := Lib.hid h1
    clear h1 H c0 c1 c2 c3 f0 f1 f2 f3
    simp only at d0 d1 d2 d3
    go_region_with ((go_at_call 47; refine (rot16 _ _).mono ?_; rintro en wq ⟨rfl, he⟩; subst he))
    all_goals
      go_wp2
      go_end0
      refine ⟨rfl, ?_⟩
      exact (H1.out.set3 _).dr 1
set_option maxHeartbeats 1000000 in
theorem mix03 (B : Nat) (W w : World) (g : Nat) (v : S) (h : S4 B W w g v) : Calls Try.prog 44 #[.pointer (some ⟨g, 0, none⟩), .int .i64 0, .int .i64 3, .int .i64 21] w fun e w' => e = .returned (.tuple #[]) ∧ S4 B W w' g ⟨v.a + v.d, v.b, v.c, v.d.rotateLeft 21 ^^^ (v.a + v.d)⟩ := by
  obtain ⟨v0, v1, v2, v3⟩ := v
  have H := Lib.hid h
  obtain ⟨hb, hge, hlt, c0, c1, c2, c3, fr⟩ := h
  have f0 := fr 0; have f1 := fr 1; have f2 := fr 2; have f3 := fr 3
  clear fr hb hge hlt
  simp only at c0 c1 c2 c3
  have e1 := add_w v0 v3
  have e2 := xor_w (v3.rotateLeft 21) (v0 + v3)
  go_enter Try.func44, Try.ntmps44
  go_wp2_with fail
  go_region_with (fail)
  all_goals
    go_wp2_with fail
    have h1 : S4 B W ((w.setCell ⟨g, 0, none⟩ (.int .u64 (wi (v0 + v3)))).drew) g ⟨v0 + v3, v1, v2, v3⟩ := (H.out.set0 (v0 + v3)).dr 1
    generalize (w.setCell ⟨g, 0, none⟩ (.int .u64 (wi (v0 + v3)))).drew = w1 at *
    have d0 := h1.c0; have d1 := h1.c1; have d2 := h1.c2; have d3 := h1.c3
    have q0 := h1.fr 0; have q1 := h1.fr 1; have q2 := h1.fr 2; have q3 := h1.fr 3
    have H1 := Lib.hid h1
    clear h1 H c0 c1 c2 c3 f0 f1 f2 f3
    simp only at d0 d1 d2 d3
    go_region_with ((go_at_call 47; refine (rot21 _ _).mono ?_; rintro en wq ⟨rfl, he⟩; subst he))
    all_goals
      go_wp2
      go_end0
      refine ⟨rfl, ?_⟩
      exact (H1.out.set3 _).dr 1
set_option maxHeartbeats 1000000 in
theorem mix21 (B : Nat) (W w : World) (g : Nat) (v : S) (h : S4 B W w g v) : Calls Try.prog 44 #[.pointer (some ⟨g, 0, none⟩), .int .i64 2, .int .i64 1, .int .i64 17] w fun e w' => e = .returned (.tuple #[]) ∧ S4 B W w' g ⟨v.a, v.b.rotateLeft 17 ^^^ (v.c + v.b), v.c + v.b, v.d⟩ := by
  obtain ⟨v0, v1, v2, v3⟩ := v
  have H := Lib.hid h
  obtain ⟨hb, hge, hlt, c0, c1, c2, c3, fr⟩ := h
  have f0 := fr 0; have f1 := fr 1; have f2 := fr 2; have f3 := fr 3
  clear fr hb hge hlt
  simp only at c0 c1 c2 c3
  have e1 := add_w v2 v1
  have e2 := xor_w (v1.rotateLeft 17) (v2 + v1)
  go_enter Try.func44, Try.ntmps44
  go_wp2_with fail
  go_region_with (fail)
  all_goals
    go_wp2_with fail
    have h1 : S4 B W ((w.setCell ⟨g, 2, none⟩ (.int .u64 (wi (v2 + v1)))).drew) g ⟨v0, v1, v2 + v1, v3⟩ := (H.out.set2 (v2 + v1)).dr 1
    generalize (w.setCell ⟨g, 2, none⟩ (.int .u64 (wi (v2 + v1)))).drew = w1 at *
    have d0 := h1.c0; have d1 := h1.c1; have d2 := h1.c2; have d3 := h1.c3
    have q0 := h1.fr 0; have q1 := h1.fr 1; have q2 := h1.fr 2; have q3 := h1.fr 3
    have H1 := Lib.hid h1
    clear h1 H c0 c1 c2 c3 f0 f1 f2 f3
    simp only at d0 d1 d2 d3
    go_region_with ((go_at_call 47; refine (rot17 _ _).mono ?_; rintro en wq ⟨rfl, he⟩; subst he))
    all_goals
      go_wp2
      go_end0
      refine ⟨rfl, ?_⟩
      exact (H1.out.set1 _).dr 1
end Tg
end Go.Proofs.Ytmeoeihfgmmgmaa
