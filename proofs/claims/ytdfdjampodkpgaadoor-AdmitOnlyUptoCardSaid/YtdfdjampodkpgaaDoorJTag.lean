/- Joined by shake.py: TagPlain TagWalks TagWalks2 TagWalks3 TagWalks4 TagWords TagOf. -/
import Derived.Test.YtdfdjampodkpgaaDoorJBase
import Derived.Laws.Bits64
import Derived.Laws.Bits64b
import Derived.Test.YtdfdjampodkpgaaDoorProg
import Derived.Deep.RegionWith
import Derived.LoopN
import Derived.Deep.CutRange
import Derived.Deep.OwnRows
import Derived.Laws.IdiomStrings
set_option linter.unusedSimpArgs false
set_option linter.unusedVariables false

/-! TagPlain -/
section
/- Words of 64 bits: plain facts on sums, exclusive ors and turns. -/
set_option linter.unusedSimpArgs false
set_option linter.unusedVariables false
namespace Go.Proofs.YtdfdjampodkpgaaDoor
open Go.RowKit
namespace Tg
abbrev W64 := BitVec 64
def wi (x : W64) : Int := (x.toNat : Int)
theorem rot_rot (x : W64) (a b : Nat) (h : a + b = 64) (hb : 0 < b) (ha0 : 0 < a) : (x.rotateLeft a).rotateLeft b = x := by
  apply BitVec.eq_of_getLsbD_eq
  intro i hi
  rw [BitVec.getLsbD_rotateLeft]
  simp only [BitVec.getLsbD_rotateLeft, Nat.mod_eq_of_lt (show a < 64 by omega), Nat.mod_eq_of_lt (show b < 64 by omega)]
  by_cases h1 : i < b
  · have e1 : ¬ 64 - b + i < a := by omega
    have e2 : 64 - b + i < 64 := by omega
    have e3 : 64 - b + i - a = i := by omega
    simp [h1, e1, e2, e3]
  · have e1 : i - b < a := by omega
    have e3 : 64 - a + (i - b) = i := by omega
    simp [h1, e1, e3, hi]
theorem wi_bd (x : W64) : 0 ≤ wi x ∧ wi x ≤ 18446744073709551615 := by have := x.isLt; unfold wi; omega
theorem add_w (a b : W64) : IntKind.u64.wrap (wi a + wi b) = wi (a + b) := by
  unfold wi; rw [IntKind.wrap_u64, BitVec.toNat_add]; omega
theorem sub_w (a b : W64) : IntKind.u64.wrap (wi a - wi b) = wi (a - b) := by
  unfold wi; rw [IntKind.wrap_u64, BitVec.toNat_sub]; have := a.isLt; have := b.isLt; omega
theorem xor_w (a b : W64) : bits .xor .u64 (wi a) (wi b) = wi (a ^^^ b) := by
  unfold wi; rw [bits_xor_u64_nat _ _ a.isLt b.isLt, BitVec.toNat_xor]
theorem or_w (a b : W64) : bits .or .u64 (wi a) (wi b) = wi (a ||| b) := by
  unfold wi; rw [bits_or_u64_nat _ _ a.isLt b.isLt, BitVec.toNat_or]
theorem shl_w (x : W64) (k : Nat) : IntKind.u64.wrap (wi x * 2 ^ k) = wi (x <<< k) := by
  unfold wi; rw [IntKind.wrap_u64, BitVec.toNat_shiftLeft, Nat.shiftLeft_eq]
  have : (x.toNat : Int) * 2 ^ k = ((x.toNat * 2 ^ k : Nat) : Int) := by simp
  rw [this]; omega
theorem shr_w (x : W64) (k : Nat) : wi x / 2 ^ k = wi (x >>> k) := by
  unfold wi; rw [BitVec.toNat_ushiftRight, Nat.shiftRight_eq_div_pow]
  simp
theorem rotl_w (x : W64) (k : Nat) (h : k < 64) : (x <<< k) ||| (x >>> (64 - k)) = x.rotateLeft k := by
  rw [BitVec.rotateLeft_def, Nat.mod_eq_of_lt h]
/-! ### a state of four words -/
structure S where
  a : W64
  b : W64
  c : W64
  d : W64
deriving DecidableEq
def round (v : S) : S :=
  let a1 := v.a + v.b
  let b1 := v.b.rotateLeft 13 ^^^ a1
  let a2 := a1.rotateLeft 32
  let c1 := v.c + v.d
  let d1 := v.d.rotateLeft 16 ^^^ c1
  let a3 := a2 + d1
  let d2 := d1.rotateLeft 21 ^^^ a3
  let c2 := c1 + b1
  let b2 := b1.rotateLeft 17 ^^^ c2
  ⟨a3, b2, c2.rotateLeft 32, d2⟩
def back (v : S) : S :=
  let c2 := v.c.rotateLeft 32
  let b1 := (v.b ^^^ c2).rotateLeft 47
  let c1 := c2 - b1
  let d1 := (v.d ^^^ v.a).rotateLeft 43
  let a2 := v.a - d1
  let d := (d1 ^^^ c1).rotateLeft 48
  let c := c1 - d
  let a1 := a2.rotateLeft 32
  let b := (b1 ^^^ a1).rotateLeft 51
  ⟨a1 - b, b, c, d⟩
theorem xx (x y : W64) : x ^^^ y ^^^ y = x := by rw [BitVec.xor_assoc, BitVec.xor_self, BitVec.xor_zero]
theorem back_round (v : S) : back (round v) = v := by
  obtain ⟨a, b, c, d⟩ := v
  simp only [back, round, xx, rot_rot _ 32 32 rfl (by omega) (by omega), rot_rot _ 17 47 rfl (by omega) (by omega), rot_rot _ 21 43 rfl (by omega) (by omega), rot_rot _ 16 48 rfl (by omega) (by omega), rot_rot _ 13 51 rfl (by omega) (by omega), BitVec.add_sub_cancel]
theorem sub_add (x y : W64) : x - y + y = x := BitVec.sub_add_cancel x y
theorem round_back (v : S) : round (back v) = v := by
  obtain ⟨a, b, c, d⟩ := v
  simp only [back, round, xx, sub_add, rot_rot _ 32 32 rfl (by omega) (by omega), rot_rot _ 47 17 rfl (by omega) (by omega), rot_rot _ 43 21 rfl (by omega) (by omega), rot_rot _ 48 16 rfl (by omega) (by omega), rot_rot _ 51 13 rfl (by omega) (by omega)]
def take (v : S) (m : W64) : S :=
  let r := round (round ⟨v.a, v.b, v.c, v.d ^^^ m⟩)
  ⟨r.a ^^^ m, r.b, r.c, r.d⟩
def finish (v : S) : W64 :=
  let r := round (round (round (round ⟨v.a, v.b, v.c ^^^ 255, v.d⟩)))
  0 ^^^ r.a ^^^ r.b ^^^ r.c ^^^ r.d
def start (a b : W64) : S := ⟨a ^^^ 8317987319222330741, b ^^^ 7237128888997146477, a ^^^ 7816392313619706465, b ^^^ 8387220255154660723⟩
theorem take_back (v : S) (m : W64) : (let t := take v m; let r := back (back ⟨t.a ^^^ m, t.b, t.c, t.d⟩); (⟨r.a, r.b, r.c, r.d ^^^ m⟩ : S)) = v := by
  obtain ⟨a, b, c, d⟩ := v
  simp only [take, xx]
  rw [show ∀ r : S, (⟨r.a, r.b, r.c, r.d⟩ : S) = r from fun _ => rfl, back_round, back_round]
  simp [xx]
theorem take_inj (v w : S) (m : W64) (h : take v m = take w m) : v = w := by
  have h1 := take_back v m
  have h2 := take_back w m
  rw [h] at h1
  rw [← h1]; exact h2
end Tg
end Go.Proofs.YtdfdjampodkpgaaDoor
end

/-! TagWalks -/
section
/- Package tag: the turns and the steps of a round. -/
set_option linter.unusedSimpArgs false
set_option linter.unusedVariables false
namespace Go.Proofs.YtdfdjampodkpgaaDoor
open Go.RowKit
namespace Tg
theorem rot13 (x : W64) (w : World) : Calls Tryd.prog 112 #[.int .u64 (wi x), .int .i64 13] w fun e w' => e = .returned (.int .u64 (wi (x.rotateLeft 13))) ∧ w = w' := by
  have e1 : IntKind.u64.wrap (wi x * 8192) = wi (x <<< 13) := by simpa using shl_w x 13
  have e2 : wi x / (2251799813685248 : Int) = wi (x >>> 51) := by have h := shr_w x 51; rw [show (2 : Int) ^ 51 = 2251799813685248 by decide] at h; exact h
  have e3 : bits .or .u64 (wi (x <<< 13)) (wi (x >>> 51)) = wi (x.rotateLeft 13) := by rw [or_w, ← rotl_w x 13 (by omega)]
  have hb := wi_bd x
  have e0 : bits .and .u64 13 63 = 13 := by decide +kernel
  go_enter Tryd.func112, Tryd.ntmps112
  go_wp2
  go_ret
  refine ⟨?_, rfl⟩
  first | rfl | (show Ending.returned (.int .u64 (bits .or .u64 (wi (x <<< 13)) (wi x / 2251799813685248))) = _; rw [e2, e3])
theorem rot16 (x : W64) (w : World) : Calls Tryd.prog 112 #[.int .u64 (wi x), .int .i64 16] w fun e w' => e = .returned (.int .u64 (wi (x.rotateLeft 16))) ∧ w = w' := by
  have e1 : IntKind.u64.wrap (wi x * 65536) = wi (x <<< 16) := by simpa using shl_w x 16
  have e2 : wi x / (281474976710656 : Int) = wi (x >>> 48) := by have h := shr_w x 48; rw [show (2 : Int) ^ 48 = 281474976710656 by decide] at h; exact h
  have e3 : bits .or .u64 (wi (x <<< 16)) (wi (x >>> 48)) = wi (x.rotateLeft 16) := by rw [or_w, ← rotl_w x 16 (by omega)]
  have hb := wi_bd x
  have e0 : bits .and .u64 16 63 = 16 := by decide +kernel
  go_enter Tryd.func112, Tryd.ntmps112
  go_wp2
  go_ret
  refine ⟨?_, rfl⟩
  first | rfl | (show Ending.returned (.int .u64 (bits .or .u64 (wi (x <<< 16)) (wi x / 281474976710656))) = _; rw [e2, e3])
theorem rot17 (x : W64) (w : World) : Calls Tryd.prog 112 #[.int .u64 (wi x), .int .i64 17] w fun e w' => e = .returned (.int .u64 (wi (x.rotateLeft 17))) ∧ w = w' := by
  have e1 : IntKind.u64.wrap (wi x * 131072) = wi (x <<< 17) := by simpa using shl_w x 17
  have e2 : wi x / (140737488355328 : Int) = wi (x >>> 47) := by have h := shr_w x 47; rw [show (2 : Int) ^ 47 = 140737488355328 by decide] at h; exact h
  have e3 : bits .or .u64 (wi (x <<< 17)) (wi (x >>> 47)) = wi (x.rotateLeft 17) := by rw [or_w, ← rotl_w x 17 (by omega)]
  have hb := wi_bd x
  have e0 : bits .and .u64 17 63 = 17 := by decide +kernel
  go_enter Tryd.func112, Tryd.ntmps112
  go_wp2
  go_ret
  refine ⟨?_, rfl⟩
  first | rfl | (show Ending.returned (.int .u64 (bits .or .u64 (wi (x <<< 17)) (wi x / 140737488355328))) = _; rw [e2, e3])
theorem rot21 (x : W64) (w : World) : Calls Tryd.prog 112 #[.int .u64 (wi x), .int .i64 21] w fun e w' => e = .returned (.int .u64 (wi (x.rotateLeft 21))) ∧ w = w' := by
  have e1 : IntKind.u64.wrap (wi x * 2097152) = wi (x <<< 21) := by simpa using shl_w x 21
  have e2 : wi x / (8796093022208 : Int) = wi (x >>> 43) := by have h := shr_w x 43; rw [show (2 : Int) ^ 43 = 8796093022208 by decide] at h; exact h
  have e3 : bits .or .u64 (wi (x <<< 21)) (wi (x >>> 43)) = wi (x.rotateLeft 21) := by rw [or_w, ← rotl_w x 21 (by omega)]
  have hb := wi_bd x
  have e0 : bits .and .u64 21 63 = 21 := by decide +kernel
  go_enter Tryd.func112, Tryd.ntmps112
  go_wp2
  go_ret
  refine ⟨?_, rfl⟩
  first | rfl | (show Ending.returned (.int .u64 (bits .or .u64 (wi (x <<< 21)) (wi x / 8796093022208))) = _; rw [e2, e3])
theorem rot32 (x : W64) (w : World) : Calls Tryd.prog 112 #[.int .u64 (wi x), .int .i64 32] w fun e w' => e = .returned (.int .u64 (wi (x.rotateLeft 32))) ∧ w = w' := by
  have e1 : IntKind.u64.wrap (wi x * 4294967296) = wi (x <<< 32) := by simpa using shl_w x 32
  have e2 : wi x / (4294967296 : Int) = wi (x >>> 32) := by have h := shr_w x 32; rw [show (2 : Int) ^ 32 = 4294967296 by decide] at h; exact h
  have e3 : bits .or .u64 (wi (x <<< 32)) (wi (x >>> 32)) = wi (x.rotateLeft 32) := by rw [or_w, ← rotl_w x 32 (by omega)]
  have hb := wi_bd x
  have e0 : bits .and .u64 32 63 = 32 := by decide +kernel
  go_enter Tryd.func112, Tryd.ntmps112
  go_wp2
  go_ret
  refine ⟨?_, rfl⟩
  first | rfl | (show Ending.returned (.int .u64 (bits .or .u64 (wi (x <<< 32)) (wi x / 4294967296))) = _; rw [e2, e3])
theorem rotm13 (x : W64) (w : World) : Calls Tryd.prog 112 #[.int .u64 (wi x), .int .i64 (-13)] w fun e w' => e = .returned (.int .u64 (wi (x.rotateLeft 51))) ∧ w = w' := by
  have e1 : IntKind.u64.wrap (wi x * 2251799813685248) = wi (x <<< 51) := by simpa using shl_w x 51
  have e2 : wi x / (8192 : Int) = wi (x >>> 13) := by have h := shr_w x 13; rw [show (2 : Int) ^ 13 = 8192 by decide] at h; exact h
  have e3 : bits .or .u64 (wi (x <<< 51)) (wi (x >>> 13)) = wi (x.rotateLeft 51) := by rw [or_w, ← rotl_w x 51 (by omega)]
  have hb := wi_bd x
  have e0 : bits .and .u64 (IntKind.u64.wrap (-13)) 63 = 51 := by decide +kernel
  go_enter Tryd.func112, Tryd.ntmps112
  go_wp2
  go_ret
  refine ⟨?_, rfl⟩
  first | rfl | (show Ending.returned (.int .u64 (bits .or .u64 (wi (x <<< 51)) (wi x / 8192))) = _; rw [e2, e3])
theorem rotm16 (x : W64) (w : World) : Calls Tryd.prog 112 #[.int .u64 (wi x), .int .i64 (-16)] w fun e w' => e = .returned (.int .u64 (wi (x.rotateLeft 48))) ∧ w = w' := by
  have e1 : IntKind.u64.wrap (wi x * 281474976710656) = wi (x <<< 48) := by simpa using shl_w x 48
  have e2 : wi x / (65536 : Int) = wi (x >>> 16) := by have h := shr_w x 16; rw [show (2 : Int) ^ 16 = 65536 by decide] at h; exact h
  have e3 : bits .or .u64 (wi (x <<< 48)) (wi (x >>> 16)) = wi (x.rotateLeft 48) := by rw [or_w, ← rotl_w x 48 (by omega)]
  have hb := wi_bd x
  have e0 : bits .and .u64 (IntKind.u64.wrap (-16)) 63 = 48 := by decide +kernel
  go_enter Tryd.func112, Tryd.ntmps112
  go_wp2
  go_ret
  refine ⟨?_, rfl⟩
  first | rfl | (show Ending.returned (.int .u64 (bits .or .u64 (wi (x <<< 48)) (wi x / 65536))) = _; rw [e2, e3])
theorem rotm17 (x : W64) (w : World) : Calls Tryd.prog 112 #[.int .u64 (wi x), .int .i64 (-17)] w fun e w' => e = .returned (.int .u64 (wi (x.rotateLeft 47))) ∧ w = w' := by
  have e1 : IntKind.u64.wrap (wi x * 140737488355328) = wi (x <<< 47) := by simpa using shl_w x 47
  have e2 : wi x / (131072 : Int) = wi (x >>> 17) := by have h := shr_w x 17; rw [show (2 : Int) ^ 17 = 131072 by decide] at h; exact h
  have e3 : bits .or .u64 (wi (x <<< 47)) (wi (x >>> 17)) = wi (x.rotateLeft 47) := by rw [or_w, ← rotl_w x 47 (by omega)]
  have hb := wi_bd x
  have e0 : bits .and .u64 (IntKind.u64.wrap (-17)) 63 = 47 := by decide +kernel
  go_enter Tryd.func112, Tryd.ntmps112
  go_wp2
  go_ret
  refine ⟨?_, rfl⟩
  first | rfl | (show Ending.returned (.int .u64 (bits .or .u64 (wi (x <<< 47)) (wi x / 131072))) = _; rw [e2, e3])
theorem rotm21 (x : W64) (w : World) : Calls Tryd.prog 112 #[.int .u64 (wi x), .int .i64 (-21)] w fun e w' => e = .returned (.int .u64 (wi (x.rotateLeft 43))) ∧ w = w' := by
  have e1 : IntKind.u64.wrap (wi x * 8796093022208) = wi (x <<< 43) := by simpa using shl_w x 43
  have e2 : wi x / (2097152 : Int) = wi (x >>> 21) := by have h := shr_w x 21; rw [show (2 : Int) ^ 21 = 2097152 by decide] at h; exact h
  have e3 : bits .or .u64 (wi (x <<< 43)) (wi (x >>> 21)) = wi (x.rotateLeft 43) := by rw [or_w, ← rotl_w x 43 (by omega)]
  have hb := wi_bd x
  have e0 : bits .and .u64 (IntKind.u64.wrap (-21)) 63 = 43 := by decide +kernel
  go_enter Tryd.func112, Tryd.ntmps112
  go_wp2
  go_ret
  refine ⟨?_, rfl⟩
  first | rfl | (show Ending.returned (.int .u64 (bits .or .u64 (wi (x <<< 43)) (wi x / 2097152))) = _; rw [e2, e3])
structure S4 (B : Nat) (W w : World) (g : Nat) (v : S) : Prop where
  below : Below B W w
  ge : B ≤ g
  lt : g < w.heap.size
  c0 : w.cell? ⟨g, 0, none⟩ = some (.int .u64 (wi v.a))
  c1 : w.cell? ⟨g, 1, none⟩ = some (.int .u64 (wi v.b))
  c2 : w.cell? ⟨g, 2, none⟩ = some (.int .u64 (wi v.c))
  c3 : w.cell? ⟨g, 3, none⟩ = some (.int .u64 (wi v.d))
  fr : ∀ j, w.frozen? ⟨g, j, none⟩ = false
section
variable {B : Nat} {W w : World} {g : Nat} {v : S}
theorem S4.dr (h : S4 B W w g v) (m : Nat) : S4 B W (w.drewN m) g v := ⟨⟨h.below.os, h.below.tape, h.below.output, h.below.size, h.below.block⟩, h.ge, h.lt, h.c0, h.c1, h.c2, h.c3, h.fr⟩
theorem cne {g i j : Nat} (h : i ≠ j) : (⟨g, i, none⟩ : Addr) ≠ ⟨g, j, none⟩ := fun e => by injection e; omega
theorem S4.set0 (h : S4 B W w g v) (x : W64) : S4 B W (w.setCell ⟨g, 0, none⟩ (.int .u64 (wi x))) g ⟨x, v.b, v.c, v.d⟩ :=
  ⟨h.below.setCell h.ge _, h.ge, by have := h.lt; simpa using this, World.cell?_setCell_same w _ _ h.c0, (World.cell?_setCell_other w _ _ _ (cne (by omega))).trans h.c1, (World.cell?_setCell_other w _ _ _ (cne (by omega))).trans h.c2, (World.cell?_setCell_other w _ _ _ (cne (by omega))).trans h.c3, fun j => by rw [World.frozen?_setCell]; exact h.fr j⟩
theorem S4.set1 (h : S4 B W w g v) (x : W64) : S4 B W (w.setCell ⟨g, 1, none⟩ (.int .u64 (wi x))) g ⟨v.a, x, v.c, v.d⟩ :=
  ⟨h.below.setCell h.ge _, h.ge, by have := h.lt; simpa using this, (World.cell?_setCell_other w _ _ _ (cne (by omega))).trans h.c0, World.cell?_setCell_same w _ _ h.c1, (World.cell?_setCell_other w _ _ _ (cne (by omega))).trans h.c2, (World.cell?_setCell_other w _ _ _ (cne (by omega))).trans h.c3, fun j => by rw [World.frozen?_setCell]; exact h.fr j⟩
theorem S4.set2 (h : S4 B W w g v) (x : W64) : S4 B W (w.setCell ⟨g, 2, none⟩ (.int .u64 (wi x))) g ⟨v.a, v.b, x, v.d⟩ :=
  ⟨h.below.setCell h.ge _, h.ge, by have := h.lt; simpa using this, (World.cell?_setCell_other w _ _ _ (cne (by omega))).trans h.c0, (World.cell?_setCell_other w _ _ _ (cne (by omega))).trans h.c1, World.cell?_setCell_same w _ _ h.c2, (World.cell?_setCell_other w _ _ _ (cne (by omega))).trans h.c3, fun j => by rw [World.frozen?_setCell]; exact h.fr j⟩
theorem S4.set3 (h : S4 B W w g v) (x : W64) : S4 B W (w.setCell ⟨g, 3, none⟩ (.int .u64 (wi x))) g ⟨v.a, v.b, v.c, x⟩ :=
  ⟨h.below.setCell h.ge _, h.ge, by have := h.lt; simpa using this, (World.cell?_setCell_other w _ _ _ (cne (by omega))).trans h.c0, (World.cell?_setCell_other w _ _ _ (cne (by omega))).trans h.c1, (World.cell?_setCell_other w _ _ _ (cne (by omega))).trans h.c2, World.cell?_setCell_same w _ _ h.c3, fun j => by rw [World.frozen?_setCell]; exact h.fr j⟩
end
set_option maxHeartbeats 1000000 in
theorem half0 (B : Nat) (W w : World) (g : Nat) (v : S) (h : S4 B W w g v) : Calls Tryd.prog 107 #[.pointer (some ⟨g, 0, none⟩), .int .i64 0] w fun e w' => e = .returned (.tuple #[]) ∧ S4 B W w' g ⟨v.a.rotateLeft 32, v.b, v.c, v.d⟩ := by
  obtain ⟨v0, v1, v2, v3⟩ := v
  have H := Lib.hid h
  obtain ⟨hb, hge, hlt, c0, c1, c2, c3, fr⟩ := h
  have f0 := fr 0; have f1 := fr 1; have f2 := fr 2; have f3 := fr 3
  clear fr hb hge hlt
  simp only at c0 c1 c2 c3
  go_enter Tryd.func107, Tryd.ntmps107
  go_wp2_with fail
  go_region_with ((go_at_call 112; refine (rot32 _ _).mono ?_; rintro en wq ⟨rfl, he⟩; subst he))
  all_goals
    go_wp2
    go_end0
    refine ⟨rfl, ?_⟩
    exact (H.out.set0 _).dr 1
set_option maxHeartbeats 1000000 in
theorem half2 (B : Nat) (W w : World) (g : Nat) (v : S) (h : S4 B W w g v) : Calls Tryd.prog 107 #[.pointer (some ⟨g, 0, none⟩), .int .i64 2] w fun e w' => e = .returned (.tuple #[]) ∧ S4 B W w' g ⟨v.a, v.b, v.c.rotateLeft 32, v.d⟩ := by
  obtain ⟨v0, v1, v2, v3⟩ := v
  have H := Lib.hid h
  obtain ⟨hb, hge, hlt, c0, c1, c2, c3, fr⟩ := h
  have f0 := fr 0; have f1 := fr 1; have f2 := fr 2; have f3 := fr 3
  clear fr hb hge hlt
  simp only at c0 c1 c2 c3
  go_enter Tryd.func107, Tryd.ntmps107
  go_wp2_with fail
  go_region_with ((go_at_call 112; refine (rot32 _ _).mono ?_; rintro en wq ⟨rfl, he⟩; subst he))
  all_goals
    go_wp2
    go_end0
    refine ⟨rfl, ?_⟩
    exact (H.out.set2 _).dr 1
set_option maxHeartbeats 1000000 in
theorem mix01 (B : Nat) (W w : World) (g : Nat) (v : S) (h : S4 B W w g v) : Calls Tryd.prog 106 #[.pointer (some ⟨g, 0, none⟩), .int .i64 0, .int .i64 1, .int .i64 13] w fun e w' => e = .returned (.tuple #[]) ∧ S4 B W w' g ⟨v.a + v.b, v.b.rotateLeft 13 ^^^ (v.a + v.b), v.c, v.d⟩ := by
  obtain ⟨v0, v1, v2, v3⟩ := v
  have H := Lib.hid h
  obtain ⟨hb, hge, hlt, c0, c1, c2, c3, fr⟩ := h
  have f0 := fr 0; have f1 := fr 1; have f2 := fr 2; have f3 := fr 3
  clear fr hb hge hlt
  simp only at c0 c1 c2 c3
  have e1 := add_w v0 v1
  have e2 := xor_w (v1.rotateLeft 13) (v0 + v1)
  go_enter Tryd.func106, Tryd.ntmps106
  go_wp2_with fail
  go_region_with (fail)
  all_goals
    go_wp2_with fail
    have h1 : S4 B W ((w.setCell ⟨g, 0, none⟩ (.int .u64 (wi (v0 + v1)))).drew) g ⟨v0 + v1, v1, v2, v3⟩ := (H.out.set0 (v0 + v1)).dr 1
    generalize (w.setCell ⟨g, 0, none⟩ (.int .u64 (wi (v0 + v1)))).drew = w1 at *
    have d0 := h1.c0; have d1 := h1.c1; have d2 := h1.c2; have d3 := h1.c3
    have q0 := h1.fr 0; have q1 := h1.fr 1; have q2 := h1.fr 2; have q3 := h1.fr 3
    have H1 := Lib.hid h1
    clear h1 H c0 c1 c2 c3 f0 f1 f2 f3
    simp only at d0 d1 d2 d3
    go_region_with ((go_at_call 112; refine (rot13 _ _).mono ?_; rintro en wq ⟨rfl, he⟩; subst he))
    all_goals
      go_wp2
      go_end0
      refine ⟨rfl, ?_⟩
      exact (H1.out.set1 _).dr 1
set_option maxHeartbeats 1000000 in
theorem mix23 (B : Nat) (W w : World) (g : Nat) (v : S) (h : S4 B W w g v) : Calls Tryd.prog 106 #[.pointer (some ⟨g, 0, none⟩), .int .i64 2, .int .i64 3, .int .i64 16] w fun e w' => e = .returned (.tuple #[]) ∧ S4 B W w' g ⟨v.a, v.b, v.c + v.d, v.d.rotateLeft 16 ^^^ (v.c + v.d)⟩ := by
  obtain ⟨v0, v1, v2, v3⟩ := v
  have H := Lib.hid h
  obtain ⟨hb, hge, hlt, c0, c1, c2, c3, fr⟩ := h
  have f0 := fr 0; have f1 := fr 1; have f2 := fr 2; have f3 := fr 3
  clear fr hb hge hlt
  simp only at c0 c1 c2 c3
  have e1 := add_w v2 v3
  have e2 := xor_w (v3.rotateLeft 16) (v2 + v3)
  go_enter Tryd.func106, Tryd.ntmps106
  go_wp2_with fail
  go_region_with (fail)
  all_goals
    go_wp2_with fail
    have h1 : S4 B W ((w.setCell ⟨g, 2, none⟩ (.int .u64 (wi (v2 + v3)))).drew) g ⟨v0, v1, v2 + v3, v3⟩ := (H.out.set2 (v2 + v3)).dr 1
    generalize (w.setCell ⟨g, 2, none⟩ (.int .u64 (wi (v2 + v3)))).drew = w1 at *
    have d0 := h1.c0; have d1 := h1.c1; have d2 := h1.c2; have d3 := h1.c3
    have q0 := h1.fr 0; have q1 := h1.fr 1; have q2 := h1.fr 2; have q3 := h1.fr 3
    have H1 := Lib.hid h1
    clear h1 H c0 c1 c2 c3 f0 f1 f2 f3
    simp only at d0 d1 d2 d3
    go_region_with ((go_at_call 112; refine (rot16 _ _).mono ?_; rintro en wq ⟨rfl, he⟩; subst he))
    all_goals
      go_wp2
      go_end0
      refine ⟨rfl, ?_⟩
      exact (H1.out.set3 _).dr 1
set_option maxHeartbeats 1000000 in
theorem mix03 (B : Nat) (W w : World) (g : Nat) (v : S) (h : S4 B W w g v) : Calls Tryd.prog 106 #[.pointer (some ⟨g, 0, none⟩), .int .i64 0, .int .i64 3, .int .i64 21] w fun e w' => e = .returned (.tuple #[]) ∧ S4 B W w' g ⟨v.a + v.d, v.b, v.c, v.d.rotateLeft 21 ^^^ (v.a + v.d)⟩ := by
  obtain ⟨v0, v1, v2, v3⟩ := v
  have H := Lib.hid h
  obtain ⟨hb, hge, hlt, c0, c1, c2, c3, fr⟩ := h
  have f0 := fr 0; have f1 := fr 1; have f2 := fr 2; have f3 := fr 3
  clear fr hb hge hlt
  simp only at c0 c1 c2 c3
  have e1 := add_w v0 v3
  have e2 := xor_w (v3.rotateLeft 21) (v0 + v3)
  go_enter Tryd.func106, Tryd.ntmps106
  go_wp2_with fail
  go_region_with (fail)
  all_goals
    go_wp2_with fail
    have h1 : S4 B W ((w.setCell ⟨g, 0, none⟩ (.int .u64 (wi (v0 + v3)))).drew) g ⟨v0 + v3, v1, v2, v3⟩ := (H.out.set0 (v0 + v3)).dr 1
    generalize (w.setCell ⟨g, 0, none⟩ (.int .u64 (wi (v0 + v3)))).drew = w1 at *
    have d0 := h1.c0; have d1 := h1.c1; have d2 := h1.c2; have d3 := h1.c3
    have q0 := h1.fr 0; have q1 := h1.fr 1; have q2 := h1.fr 2; have q3 := h1.fr 3
    have H1 := Lib.hid h1
    clear h1 H c0 c1 c2 c3 f0 f1 f2 f3
    simp only at d0 d1 d2 d3
    go_region_with ((go_at_call 112; refine (rot21 _ _).mono ?_; rintro en wq ⟨rfl, he⟩; subst he))
    all_goals
      go_wp2
      go_end0
      refine ⟨rfl, ?_⟩
      exact (H1.out.set3 _).dr 1
set_option maxHeartbeats 1000000 in
theorem mix21 (B : Nat) (W w : World) (g : Nat) (v : S) (h : S4 B W w g v) : Calls Tryd.prog 106 #[.pointer (some ⟨g, 0, none⟩), .int .i64 2, .int .i64 1, .int .i64 17] w fun e w' => e = .returned (.tuple #[]) ∧ S4 B W w' g ⟨v.a, v.b.rotateLeft 17 ^^^ (v.c + v.b), v.c + v.b, v.d⟩ := by
  obtain ⟨v0, v1, v2, v3⟩ := v
  have H := Lib.hid h
  obtain ⟨hb, hge, hlt, c0, c1, c2, c3, fr⟩ := h
  have f0 := fr 0; have f1 := fr 1; have f2 := fr 2; have f3 := fr 3
  clear fr hb hge hlt
  simp only at c0 c1 c2 c3
  have e1 := add_w v2 v1
  have e2 := xor_w (v1.rotateLeft 17) (v2 + v1)
  go_enter Tryd.func106, Tryd.ntmps106
  go_wp2_with fail
  go_region_with (fail)
  all_goals
    go_wp2_with fail
    have h1 : S4 B W ((w.setCell ⟨g, 2, none⟩ (.int .u64 (wi (v2 + v1)))).drew) g ⟨v0, v1, v2 + v1, v3⟩ := (H.out.set2 (v2 + v1)).dr 1
    generalize (w.setCell ⟨g, 2, none⟩ (.int .u64 (wi (v2 + v1)))).drew = w1 at *
    have d0 := h1.c0; have d1 := h1.c1; have d2 := h1.c2; have d3 := h1.c3
    have q0 := h1.fr 0; have q1 := h1.fr 1; have q2 := h1.fr 2; have q3 := h1.fr 3
    have H1 := Lib.hid h1
    clear h1 H c0 c1 c2 c3 f0 f1 f2 f3
    simp only at d0 d1 d2 d3
    go_region_with ((go_at_call 112; refine (rot17 _ _).mono ?_; rintro en wq ⟨rfl, he⟩; subst he))
    all_goals
      go_wp2
      go_end0
      refine ⟨rfl, ?_⟩
      exact (H1.out.set1 _).dr 1
end Tg
end Go.Proofs.YtdfdjampodkpgaaDoor
end

/-! TagWalks2 -/
section
/- Package tag: rounds. -/
set_option linter.unusedSimpArgs false
set_option linter.unusedVariables false
namespace Go.Proofs.YtdfdjampodkpgaaDoor
open Go.RowKit
namespace Tg
def aS (v : S) : Value := .agg #[.int .u64 (wi v.a), .int .u64 (wi v.b), .int .u64 (wi v.c), .int .u64 (wi v.d)]
theorem round_any (B : Nat) (W w : World) (g : Nat) (v : S) (h : S4 B W w g v) : Calls Tryd.prog 101 #[.pointer (some ⟨g, 0, none⟩)] w fun e w' => e = .returned (.tuple #[]) ∧ S4 B W w' g (round v) := by
  have H := Lib.hid h; clear h
  go_enter Tryd.func101, Tryd.ntmps101
  go_wp2_with fail
  refine (mix01 B W _ g v H.out).mono ?_
  rintro en w1 ⟨rfl, h1⟩
  have H1 := Lib.hid h1; clear h1
  go_wp2_with fail
  refine (half0 B W _ g _ H1.out).mono ?_
  rintro en w2 ⟨rfl, h2⟩
  have H2 := Lib.hid h2; clear h2
  go_wp2_with fail
  refine (mix23 B W _ g _ H2.out).mono ?_
  rintro en w3 ⟨rfl, h3⟩
  have H3 := Lib.hid h3; clear h3
  go_wp2_with fail
  refine (mix03 B W _ g _ H3.out).mono ?_
  rintro en w4 ⟨rfl, h4⟩
  have H4 := Lib.hid h4; clear h4
  go_wp2_with fail
  refine (mix21 B W _ g _ H4.out).mono ?_
  rintro en w5 ⟨rfl, h5⟩
  have H5 := Lib.hid h5; clear h5
  go_wp2_with fail
  refine (half2 B W _ g _ H5.out).mono ?_
  rintro en w6 ⟨rfl, h6⟩
  have H6 := Lib.hid h6; clear h6
  go_wp2
  go_end0
  exact ⟨rfl, H6.out⟩
/-- three blocks of the call's own: what came in, the result, the state -/
def w3 (w : World) (v u : S) (t1 t2 : TypeId) : World := ((w.alloc (.cells #[.int .u64 (wi v.a), .int .u64 (wi v.b), .int .u64 (wi v.c), .int .u64 (wi v.d)] t1)).alloc (.cells #[.int .u64 0, .int .u64 0, .int .u64 0, .int .u64 0] t1)).alloc (.cells #[.int .u64 (wi u.a), .int .u64 (wi u.b), .int .u64 (wi u.c), .int .u64 (wi u.d)] t2)
theorem w3_st (w : World) (v u : S) (t1 t2 : TypeId) : S4 (w.heap.size + 1 + 1) (w3 w v u t1 t2) (w3 w v u t1 t2) (w.heap.size + 1 + 1) u := by
  have hs : ((w.alloc (.cells #[.int .u64 (wi v.a), .int .u64 (wi v.b), .int .u64 (wi v.c), .int .u64 (wi v.d)] t1)).alloc (.cells #[.int .u64 0, .int .u64 0, .int .u64 0, .int .u64 0] t1)).heap.size = w.heap.size + 1 + 1 := by simp
  unfold w3
  refine ⟨Below.refl _ _, Nat.le_refl _, by simp, ?_, ?_, ?_, ?_, fun j => ?_⟩
  · rw [← hs, World.cell?_alloc_mark]; rfl
  · rw [← hs, World.cell?_alloc_mark]; rfl
  · rw [← hs, World.cell?_alloc_mark]; rfl
  · rw [← hs, World.cell?_alloc_mark]; rfl
  · rw [← hs, World.frozen?_alloc_mark]; simp
theorem w3_below (w : World) (v u : S) (t1 t2 : TypeId) : Below w.heap.size w (w3 w v u t1 t2) := by
  unfold w3
  exact (((br w).alloc (Nat.le_refl _) _).alloc (by simp) _).alloc (by simp; omega) _
theorem w3_res (w : World) (v u : S) (t1 t2 : TypeId) (j : Nat) (hj : j < 4) : (w3 w v u t1 t2).cell? ⟨w.heap.size + 1, j, none⟩ = some (.int .u64 0) ∧ (w3 w v u t1 t2).frozen? ⟨w.heap.size + 1, j, none⟩ = false := by
  have hs : (w.alloc (.cells #[.int .u64 (wi v.a), .int .u64 (wi v.b), .int .u64 (wi v.c), .int .u64 (wi v.d)] t1)).heap.size = w.heap.size + 1 := by simp
  unfold w3
  have hb := (br ((w.alloc (.cells #[.int .u64 (wi v.a), .int .u64 (wi v.b), .int .u64 (wi v.c), .int .u64 (wi v.d)] t1)).alloc (.cells #[.int .u64 0, .int .u64 0, .int .u64 0, .int .u64 0] t1))).alloc (Nat.le_refl _) (.cells #[.int .u64 (wi u.a), .int .u64 (wi u.b), .int .u64 (wi u.c), .int .u64 (wi u.d)] t2)
  rw [hb.cell (p := ⟨w.heap.size + 1, j, none⟩) (by simp), hb.frozen (p := ⟨w.heap.size + 1, j, none⟩) (by simp)]
  rw [← hs, World.cell?_alloc_mark, World.frozen?_alloc_mark]
  refine ⟨?_, by simp⟩
  match j, hj with
  | 0, _ => rfl
  | 1, _ => rfl
  | 2, _ => rfl
  | 3, _ => rfl
theorem w3_frz (w : World) (v u : S) (t1 t2 : TypeId) (j : Nat) : (w3 w v u t1 t2).frozen? ⟨w.heap.size + 1, j, none⟩ = false := by
  have hs : (w.alloc (.cells #[.int .u64 (wi v.a), .int .u64 (wi v.b), .int .u64 (wi v.c), .int .u64 (wi v.d)] t1)).heap.size = w.heap.size + 1 := by simp
  unfold w3
  have hb := (br ((w.alloc (.cells #[.int .u64 (wi v.a), .int .u64 (wi v.b), .int .u64 (wi v.c), .int .u64 (wi v.d)] t1)).alloc (.cells #[.int .u64 0, .int .u64 0, .int .u64 0, .int .u64 0] t1))).alloc (Nat.le_refl _) (.cells #[.int .u64 (wi u.a), .int .u64 (wi u.b), .int .u64 (wi u.c), .int .u64 (wi u.d)] t2)
  rw [hb.frozen (p := ⟨w.heap.size + 1, j, none⟩) (by simp)]
  rw [← hs, World.frozen?_alloc_mark]
  simp
end Tg
end Go.Proofs.YtdfdjampodkpgaaDoor
end

/-! TagWalks3 -/
section
/- Package tag: back, start, take, finish. -/
set_option linter.unusedSimpArgs false
set_option linter.unusedVariables false
namespace Go.Proofs.YtdfdjampodkpgaaDoor
open Go.RowKit
namespace Tg
set_option maxHeartbeats 1000000 in
theorem take_any (v : S) (m : W64) (w : World) : Calls Tryd.prog 89 #[aS v, .int .u64 (wi m)] w fun e w' => e = .returned (aS (take v m)) ∧ Below w.heap.size w w' := by
  unfold aS
  have e1 := xor_w v.d m
  go_enter Tryd.func89, Tryd.ntmps89
  have hst := w3_st w v ⟨v.a, v.b, v.c, v.d ^^^ m⟩ 126 137
  have hbl := w3_below w v ⟨v.a, v.b, v.c, v.d ^^^ m⟩ 126 137
  have hrs := w3_res w v ⟨v.a, v.b, v.c, v.d ^^^ m⟩ 126 137
  have HST := Lib.hid hst; have HRS := Lib.hid hrs
  clear hst hrs
  go_wp2
  refine wp_loop_rounds 3 ?_
  rw [rounds_succ]
  go_wp2_with fail
  refine (round_any _ _ _ _ _ HST.out).mono ?_
  rintro en w1 ⟨rfl, h1⟩
  have H1 := Lib.hid h1; clear h1
  go_wp2
  rw [rounds_succ]
  go_wp2_with fail
  refine (round_any _ _ _ _ _ H1.out).mono ?_
  rintro en w2 ⟨rfl, h2⟩
  have b0 := h2.c0; have p0 := h2.fr 0
  have b1 := h2.c1; have b2 := h2.c2; have b3 := h2.c3
  obtain ⟨R, hR⟩ : ∃ R, round (round ⟨v.a, v.b, v.c, v.d ^^^ m⟩) = R := ⟨_, rfl⟩
  rw [hR] at h2 b0 b1 b2 b3
  have e2 := xor_w R.a m
  have hT : take v m = ⟨R.a ^^^ m, R.b, R.c, R.d⟩ := by unfold take; rw [hR]
  have h6 := h2.set0 (R.a ^^^ m)
  rw [← hT] at h6
  have HT := Lib.hid hT
  clear hR hT
  go_wp2
  rw [rounds_succ]
  have H2 := Lib.hid h2; clear h2
  have H6 := Lib.hid h6; clear h6
  go_upto_region 8 with (fail)
  have h6 := H6.out
  generalize w2.setCell ⟨w.heap.size + 1 + 1, 0, none⟩ (.int .u64 (wi (R.a ^^^ m))) = w6 at *
  clear b0 b1 b2 b3 p0 H2 H6 e2
  have r0 := HRS.out 0 (by omega); have r1 := HRS.out 1 (by omega); have r2 := HRS.out 2 (by omega); have r3 := HRS.out 3 (by omega)
  have k := fun j => h6.below.cell (p := ⟨w.heap.size + 1, j, none⟩) (Nat.lt_succ_self _)
  have kf := fun j => h6.below.frozen (p := ⟨w.heap.size + 1, j, none⟩) (Nat.lt_succ_self _)
  have x0 := (k 0).trans r0.1; have x1 := (k 1).trans r1.1; have x2 := (k 2).trans r2.1; have x3 := (k 3).trans r3.1
  have y0 := (kf 0).trans r0.2; have y1 := (kf 1).trans r1.2; have y2 := (kf 2).trans r2.2; have y3 := (kf 3).trans r3.2
  have d0 := h6.c0; have d1 := h6.c1; have d2 := h6.c2; have d3 := h6.c3
  have hB : Below w.heap.size w w6 := hbl.trans (h6.below.mono (by omega))
  have R0 : S4 (w.heap.size + 1) w6 w6 (w.heap.size + 1) ⟨0, 0, 0, 0⟩ := ⟨Below.refl _ _, Nat.le_refl _, by have := h6.below.size; have := h6.lt; omega, x0, x1, x2, x3, fun j => (kf j).trans (w3_frz w v _ _ _ j)⟩
  have RR := Lib.hid ((((R0.set0 (take v m).a).set1 (take v m).b).set2 (take v m).c).set3 (take v m).d)
  clear h6 r0 r1 r2 r3 k kf HST HRS hbl R0
  go_wp2
  have rr := RR.out
  generalize (((w6.setCell ⟨w.heap.size + 1, 0, none⟩ (.int .u64 (wi (take v m).a))).setCell ⟨w.heap.size + 1, 1, none⟩ (.int .u64 (wi (take v m).b))).setCell ⟨w.heap.size + 1, 2, none⟩ (.int .u64 (wi (take v m).c))).setCell ⟨w.heap.size + 1, 3, none⟩ (.int .u64 (wi (take v m).d)) = wf at *
  have z0 := rr.c0; have z1 := rr.c1; have z2 := rr.c2; have z3 := rr.c3
  simp only at z0 z1 z2 z3
  refine bodyPost_ret (v := aS (take v m)) (by simp [results, Tryd.results89, go_sem, z0, z1, z2, z3, aS]) rfl ⟨rfl, hB.trans (rr.below.mono (by omega))⟩
end Tg
end Go.Proofs.YtdfdjampodkpgaaDoor
end

/-! TagWalks4 -/
section
/- Package tag: finish and start. -/
set_option linter.unusedSimpArgs false
set_option linter.unusedVariables false
namespace Go.Proofs.YtdfdjampodkpgaaDoor
open Go.RowKit
namespace Tg
def w2 (w : World) (v u : S) (t1 t2 : TypeId) : World := (w.alloc (.cells #[.int .u64 (wi v.a), .int .u64 (wi v.b), .int .u64 (wi v.c), .int .u64 (wi v.d)] t1)).alloc (.cells #[.int .u64 (wi u.a), .int .u64 (wi u.b), .int .u64 (wi u.c), .int .u64 (wi u.d)] t2)
theorem w2_st (w : World) (v u : S) (t1 t2 : TypeId) : S4 (w.heap.size + 1) (w2 w v u t1 t2) (w2 w v u t1 t2) (w.heap.size + 1) u := by
  have hs : (w.alloc (.cells #[.int .u64 (wi v.a), .int .u64 (wi v.b), .int .u64 (wi v.c), .int .u64 (wi v.d)] t1)).heap.size = w.heap.size + 1 := by simp
  unfold w2
  refine ⟨Below.refl _ _, Nat.le_refl _, by simp, ?_, ?_, ?_, ?_, fun j => ?_⟩
  · rw [← hs, World.cell?_alloc_mark]; rfl
  · rw [← hs, World.cell?_alloc_mark]; rfl
  · rw [← hs, World.cell?_alloc_mark]; rfl
  · rw [← hs, World.cell?_alloc_mark]; rfl
  · rw [← hs, World.frozen?_alloc_mark]; simp
theorem w2_below (w : World) (v u : S) (t1 t2 : TypeId) : Below w.heap.size w (w2 w v u t1 t2) := by
  unfold w2
  exact ((br w).alloc (Nat.le_refl _) _).alloc (by simp) _
theorem ix0 (a b c d : Value) (w : World) : (Instr.index 137 (.agg #[a, b, c, d]) (.int .i64 0)).run Tryd.prog w = .ok a w := by kernel_rfl
theorem ix1 (a b c d : Value) (w : World) : (Instr.index 137 (.agg #[a, b, c, d]) (.int .i64 1)).run Tryd.prog w = .ok b w := by kernel_rfl
theorem ix2 (a b c d : Value) (w : World) : (Instr.index 137 (.agg #[a, b, c, d]) (.int .i64 2)).run Tryd.prog w = .ok c w := by kernel_rfl
theorem ix3 (a b c d : Value) (w : World) : (Instr.index 137 (.agg #[a, b, c, d]) (.int .i64 3)).run Tryd.prog w = .ok d w := by kernel_rfl
set_option maxHeartbeats 1000000 in
theorem finish_any (v : S) (w : World) : Calls Tryd.prog 90 #[aS v] w fun e w' => e = .returned (.int .u64 (wi (finish v))) ∧ Below w.heap.size w w' := by
  unfold aS
  have e1 : bits .xor .u64 (wi v.c) 255 = wi (v.c ^^^ 255) := xor_w v.c 255
  have hst := w2_st w v ⟨v.a, v.b, v.c ^^^ 255, v.d⟩ 126 137
  have hbl := w2_below w v ⟨v.a, v.b, v.c ^^^ 255, v.d⟩ 126 137
  have HST := Lib.hid hst
  clear hst
  go_enter Tryd.func90, Tryd.ntmps90
  go_wp2
  refine wp_loop_rounds 5 ?_
  rw [rounds_succ]
  go_wp2_with fail
  refine (round_any _ _ _ _ _ HST.out).mono ?_
  rintro en u1 ⟨rfl, h1⟩
  have H1 := Lib.hid h1; clear h1
  go_wp2
  rw [rounds_succ]
  go_wp2_with fail
  refine (round_any _ _ _ _ _ H1.out).mono ?_
  rintro en u2 ⟨rfl, h2⟩
  have H2 := Lib.hid h2; clear h2
  go_wp2
  rw [rounds_succ]
  go_wp2_with fail
  refine (round_any _ _ _ _ _ H2.out).mono ?_
  rintro en u3 ⟨rfl, h3⟩
  have H3 := Lib.hid h3; clear h3
  go_wp2
  rw [rounds_succ]
  go_wp2_with fail
  refine (round_any _ _ _ _ _ H3.out).mono ?_
  rintro en u4 ⟨rfl, h4⟩
  obtain ⟨R, hR⟩ : ∃ R, round (round (round (round ⟨v.a, v.b, v.c ^^^ 255, v.d⟩))) = R := ⟨_, rfl⟩
  have hF : finish v = 0 ^^^ R.a ^^^ R.b ^^^ R.c ^^^ R.d := by unfold finish; rw [hR]
  rw [hR] at h4
  have HF := Lib.hid hF
  clear hF hR
  have b0 := h4.c0; have b1 := h4.c1; have b2 := h4.c2; have b3 := h4.c3
  have hB : Below w.heap.size w u4 := hbl.trans (h4.below.mono (by omega))
  clear h4 H1 H2 H3 HST e1 hbl
  have x0 : bits .xor .u64 0 (wi R.a) = wi (0 ^^^ R.a) := xor_w 0 R.a
  have x1 := xor_w (0 ^^^ R.a) R.b
  have x2 := xor_w (0 ^^^ R.a ^^^ R.b) R.c
  have x3 := xor_w (0 ^^^ R.a ^^^ R.b ^^^ R.c) R.d
  have i0 := ix0 (.int .u64 (wi R.a)) (.int .u64 (wi R.b)) (.int .u64 (wi R.c)) (.int .u64 (wi R.d))
  have i1 := ix1 (.int .u64 (wi R.a)) (.int .u64 (wi R.b)) (.int .u64 (wi R.c)) (.int .u64 (wi R.d))
  have i2 := ix2 (.int .u64 (wi R.a)) (.int .u64 (wi R.b)) (.int .u64 (wi R.c)) (.int .u64 (wi R.d))
  have i3 := ix3 (.int .u64 (wi R.a)) (.int .u64 (wi R.b)) (.int .u64 (wi R.c)) (.int .u64 (wi R.d))
  go_wp2
  rw [rounds_succ]
  go_wp2
  refine wp_loop_rounds 5 ?_
  rw [rounds_succ]
  go_wp2
  rw [rounds_succ]
  go_wp2
  rw [rounds_succ]
  go_wp2
  rw [rounds_succ]
  go_wp2
  rw [rounds_succ]
  go_wp2
  go_ret
  exact ⟨by rw [HF.out]; first | rfl | (simp; rw [xor_w, xor_w, xor_w]), hB⟩
def aK (a b : W64) : Value := .agg #[.int .u64 (wi a), .int .u64 (wi b)]
set_option maxHeartbeats 1000000 in
theorem start_any (a b : W64) (w : World) : Calls Tryd.prog 87 #[aK a b] w fun e w' => e = .returned (aS (start a b)) ∧ Below w.heap.size w w' := by
  unfold aK aS
  have e1 : bits .xor .u64 (wi a) 8317987319222330741 = wi (a ^^^ 8317987319222330741) := xor_w a 8317987319222330741
  have e2 : bits .xor .u64 (wi b) 7237128888997146477 = wi (b ^^^ 7237128888997146477) := xor_w b 7237128888997146477
  have e3 : bits .xor .u64 (wi a) 7816392313619706465 = wi (a ^^^ 7816392313619706465) := xor_w a 7816392313619706465
  have e4 : bits .xor .u64 (wi b) 8387220255154660723 = wi (b ^^^ 8387220255154660723) := xor_w b 8387220255154660723
  go_enter Tryd.func87, Tryd.ntmps87
  go_wp2
  refine bodyPost_ret (v := aS (start a b)) (by simp [results, Tryd.results87, go_sem, aS, start]) rfl ⟨rfl, ((br w).alloc (Nat.le_refl _) _).alloc (by simp) _⟩
/-! ### words of a text -/
def byteW (b : UInt8) : W64 := BitVec.ofNat 64 b.toNat
/-- word j, when the first k bytes are in -/
def wordAt (l : List UInt8) : Nat → Nat → W64
  | 0, _ => 0
  | k + 1, j => if j = k / 8 then wordAt l k j ||| (byteW (l.getD k 0) <<< (8 * (k % 8))) else wordAt l k j
def words (l : List UInt8) : List W64 :=
  (List.range (l.length / 8 + 1)).map (fun j => if j = l.length / 8 then wordAt l l.length j ||| (BitVec.ofNat 64 l.length <<< 56) else wordAt l l.length j)
def tagF (a b : W64) (l : List UInt8) : W64 := finish ((words l).foldl take (start a b))
theorem tag_0 : tagF 506097522914230528 1084818905618843912 [] = 8246050544436514353 := by decide +kernel
theorem tag_1 : tagF 506097522914230528 1084818905618843912 [0] = 8428550223375919101 := by decide +kernel
theorem tag_15 : tagF 506097522914230528 1084818905618843912 [0, 1, 2, 3, 4, 5, 6, 7, 8, 9, 10, 11, 12, 13, 14] = 11613035633349379557 := by decide +kernel
end Tg
end Go.Proofs.YtdfdjampodkpgaaDoor
end

/-! TagWords -/
section
/- Words of a text. -/
set_option linter.unusedSimpArgs false
set_option linter.unusedVariables false
namespace Go.Proofs.YtdfdjampodkpgaaDoor
open Go.RowKit
namespace Tg
def eW (x : W64) : List Value := [.int .u64 (wi x)]
structure Tw (W w : World) (g n : Nat) (T : Nat → W64) : Prop where
  below : Below W.heap.size W w
  ge : W.heap.size ≤ g
  lt : g < w.heap.size
  cell : ∀ j : Nat, j < n → w.cell? ⟨g, j, none⟩ = some (.int .u64 (wi (T j)))
  froz : ∀ j : Nat, w.frozen? ⟨g, j, none⟩ = false
section
variable {W w w' : World} {g n : Nat} {T : Nat → W64}
theorem Tw.next (h : Tw W w g n T) (hb : Below w.heap.size w w') : Tw W w' g n T :=
  ⟨h.below.trans (hb.mono h.below.size), h.ge, kl hb h.lt, fun j hj => (hb.cell (p := ⟨g, j, none⟩) h.lt).trans (h.cell j hj), fun j => (hb.frozen (p := ⟨g, j, none⟩) h.lt).trans (h.froz j)⟩
theorem Tw.dr (h : Tw W w g n T) (m : Nat) : Tw W (w.drewN m) g n T := ⟨⟨h.below.os, h.below.tape, h.below.output, h.below.size, h.below.block⟩, h.ge, h.lt, h.cell, h.froz⟩
theorem Tw.set (h : Tw W w g n T) (k : Nat) (hk : k < n) (x : W64) : Tw W (w.setCell ⟨g, k, none⟩ (.int .u64 (wi x))) g n (fun j => if j = k then x else T j) := by
  refine ⟨h.below.setCell h.ge _, h.ge, ?_, fun j hj => ?_, fun j => ?_⟩
  · have := h.lt; simpa using this
  · by_cases e : j = k
    · subst e; rw [if_pos rfl]; exact World.cell?_setCell_same w _ _ (h.cell j hj)
    · rw [if_neg e, World.cell?_setCell_other w _ _ _ (by intro e2; injection e2; omega)]
      exact h.cell j hj
  · rw [World.frozen?_setCell]; exact h.froz j
end
theorem Tw.congr {W w : World} {g n : Nat} {T T' : Nat → W64} (h : Tw W w g n T) (e : ∀ j, T j = T' j) : Tw W w g n T' := ⟨h.below, h.ge, h.lt, fun j hj => by rw [← e j]; exact h.cell j hj, h.froz⟩
theorem u64_info : (Tryd.prog.info? 43).map (fun i => (i.zero, i.size, i.bytes)) = some (some (.int .u64 0), 1, 8) := by kernel_rfl
theorem byteW_wi (b : UInt8) : ((b.toNat : Nat) : Int) = wi (byteW b) := by
  unfold wi byteW
  have := b.toNat_lt
  rw [BitVec.toNat_ofNat, Nat.mod_eq_of_lt (by omega)]
theorem byteW_lt (b : UInt8) : wi (byteW b) < 256 := by rw [← byteW_wi]; have := b.toNat_lt; omega
theorem shl_b (b : UInt8) (k : Nat) (h : k ≤ 56) : wi (byteW b) * 2 ^ k = wi (byteW b <<< k) := by
  rw [← shl_w]
  have h1 := byteW_lt b
  have h0 := (wi_bd (byteW b)).1
  have h2 : (2 : Int) ^ k ≤ 2 ^ 56 := by
    have : (2 : Nat) ^ k ≤ 2 ^ 56 := Nat.pow_le_pow_right (by omega) h
    exact_mod_cast this
  have h3 : (0 : Int) < 2 ^ k := by
    have : 0 < (2 : Nat) ^ k := Nat.pow_pos (by omega)
    exact_mod_cast this
  rw [IntKind.wrap_u64, Int.emod_eq_of_lt (Int.mul_nonneg h0 (by omega))]
  have h4 : wi (byteW b) * 2 ^ k ≤ 255 * 2 ^ 56 := Int.mul_le_mul (by omega) h2 (by omega) (by omega)
  have h5 : (2 : Int) ^ 56 = 72057594037927936 := by decide
  rw [h5] at h4
  omega
def WordsQ (l : List UInt8) (w : World) (e : Ending) (w' : World) : Prop :=
  ∃ g N, e = .returned (.slice (some ⟨g, 0, none⟩) N N) ∧ w.heap.size ≤ g ∧ g < w'.heap.size ∧ N = (words l).length ∧ N ≤ 140737488355328 ∧ (∀ i, i < N → w'.cell? ⟨g, i, none⟩ = some (.int .u64 (wi ((words l).getD i 0)))) ∧ Below w.heap.size w w'
set_option maxHeartbeats 2000000 in
set_option maxRecDepth 100000 in
theorem words_any (s : ByteArray) (w : World) (hs : s.size ≤ 140737488351232) : Calls Tryd.prog 88 #[.string s] w (WordsQ s.data.toList w) := by
  have hcv := fun w => run_bytes_of_string (P := Tryd.prog) w 9 84 5 s Tryd.underlying9 Tryd.underlying84 Tryd.underlying5
  obtain ⟨N, hN⟩ : ∃ N : Nat, N = s.size / 8 + 1 := ⟨_, rfl⟩
  have hmk := fun w => run_make_row' (P := Tryd.prog) 128 43 (.int .u64 0) 8 Tryd.underlying128 u64_info rfl .i64 .i64 N (by omega) (by omega) w
  have hN1 : (s.size : Int) / 8 + 1 = (N : Int) := by omega
  have hN0 : N = s.size / 8 + 1 := hN
  have HN := Lib.hid hN0
  clear hN hN0
  go_enter Tryd.func88, Tryd.ntmps88
  go_wp2_with fail
  obtain ⟨w0, hw0⟩ : ∃ w0, w0 = (w.alloc (.cells (madeCells #[.int .u64 0] N) 43)).alloc (.cells (bytesRow s (grownCap (w.alloc (.cells (madeCells #[.int .u64 0] N) 43)) s.size 0 5)) 5 ((bytesRow s (grownCap (w.alloc (.cells (madeCells #[.int .u64 0] N) 43)) s.size 0 5)).size, (bytesRow s (grownCap (w.alloc (.cells (madeCells #[.int .u64 0] N) 43)) s.size 0 5)).size + 1)) := ⟨_, rfl⟩
  have hs1 : (w.alloc (.cells (madeCells #[.int .u64 0] N) 43)).heap.size = w.heap.size + 1 := by simp
  have hT0 : Tw w w0 w.heap.size N (wordAt s.data.toList 0) := by
    rw [hw0]
    have hb := (br (w.alloc (.cells (madeCells #[.int .u64 0] N) 43))).alloc (Nat.le_refl _) (.cells (bytesRow s (grownCap (w.alloc (.cells (madeCells #[.int .u64 0] N) 43)) s.size 0 5)) 5 ((bytesRow s (grownCap (w.alloc (.cells (madeCells #[.int .u64 0] N) 43)) s.size 0 5)).size, (bytesRow s (grownCap (w.alloc (.cells (madeCells #[.int .u64 0] N) 43)) s.size 0 5)).size + 1))
    refine ⟨((br w).alloc (Nat.le_refl _) _).alloc (by simp) _, Nat.le_refl _, by simp; omega, fun j hj => ?_, fun j => ?_⟩
    · rw [hb.cell (p := ⟨w.heap.size, j, none⟩) (by simp), World.cell?_alloc_mark]
      simp [madeCells, hj, Nat.mod_one, wordAt]; rfl
    · rw [hb.frozen (p := ⟨w.heap.size, j, none⟩) (by simp), World.frozen?_alloc_mark]; simp
  have hby : ∀ p, p < s.size → w0.cell? ⟨w.heap.size + 1, p, none⟩ = some (.int .u8 (wi (byteW (s.data.toList.getD p 0)))) := fun p hp => by
    rw [hw0, ← hs1, World.cell?_alloc_mark, bytesRow_at s _ p hp, byteW_wi]
    congr 3
    rw [List.getD_eq_getElem?_getD, List.getElem?_eq_getElem (by simpa using hp)]; simp
  have HT0 := Lib.hid hT0; have HBY := Lib.hid hby
  have HW0 := Lib.hid hw0
  clear hT0 hby hs1 hw0 hcv hmk
  go_loopw [14] (fun i wr => ∃ k : Nat, k ≤ s.size ∧ i = .int .i64 k ∧ Tw w wr w.heap.size N (wordAt s.data.toList k) ∧ RowKit.Hid (∀ p, p < s.size → wr.cell? ⟨w.heap.size + 1, p, none⟩ = some (.int .u8 (wi (byteW (s.data.toList.getD p 0)))))) (fun i _ => s.size - (intOf i).toNat)
  case atStart =>
    have := HW0.out
    subst this
    exact ⟨0, Nat.zero_le _, rfl, HT0.out.dr 1, Lib.hid (fun p hp => HBY.out p hp)⟩
  case round =>
    obtain ⟨k, hk, rfl, hT, HB⟩ := hrel
    clear HT0 HBY HW0
    by_cases hlt : k < s.size
    · have cb := HB.out k hlt
      obtain ⟨c, hc⟩ : ∃ c, s.data.toList.getD k 0 = c := ⟨_, rfl⟩
      rw [hc] at cb
      have Hc := Lib.hid hc; clear hc
      have hcl := byteW_lt c
      have hc0 := (wi_bd (byteW c)).1
      obtain ⟨q, hq⟩ : ∃ q : Nat, q = k / 8 := ⟨_, rfl⟩
      have hqN : q < N := by have := HN.out; omega
      have e1 : (k : Int) / 8 = (q : Int) := by omega
      have e1' : (k : Int).tdiv 8 = (q : Int) := by rw [Int.tdiv_eq_ediv_of_nonneg (by omega)]; exact e1
      have ecw : IntKind.u64.wrap (wi (byteW c)) = wi (byteW c) := by rw [IntKind.wrap_u64]; omega
      have e1w : IntKind.i64.wrap (q : Int) = (q : Int) := IntWalk.i64_in _ (by omega)
      have cq := hT.cell q hqN
      have fq := hT.froz q
      have i0 : (0 : Int) ≤ (q : Int) := by omega
      have i1 : (q : Int) < (N : Int) := by omega
      have HT := Lib.hid hT; clear hT
      have HQ := Lib.hid hq; clear hq
      rcases (show k % 8 = 0 ∨ k % 8 = 1 ∨ k % 8 = 2 ∨ k % 8 = 3 ∨ k % 8 = 4 ∨ k % 8 = 5 ∨ k % 8 = 6 ∨ k % 8 = 7 by omega) with hr | hr | hr | hr | hr | hr | hr | hr
      · have e2 : (k : Int) % 8 = 0 := by omega
        have e2' : (k : Int).tmod 8 = 0 := by rw [Int.tmod_eq_emod_of_nonneg (by omega)]; exact e2
        have e5 : IntKind.i64.wrap 0 = 0 := by decide
        have hstep : ∀ j, (fun j => if j = q then wordAt s.data.toList k q ||| byteW c else wordAt s.data.toList k j) j = wordAt s.data.toList (k + 1) j := fun j => by
          show (if j = q then _ else _) = _
          rw [wordAt]
          rw [show k / 8 = q by omega, show k % 8 = 0 by omega]
          by_cases e : j = q
          · subst e; simp only [if_true]; rw [Hc.out]; simp
          · rw [if_neg e, if_neg e]
        have HSTEP := Lib.hid hstep; clear hstep
        have e4 := or_w (wordAt s.data.toList k q) (byteW c)
        go_wp2_with fail
        go_region_with (fail)
        all_goals
          go_wp2
          have hT2 := Lib.hid (((HT.out.set q hqN (wordAt s.data.toList k q ||| byteW c)).dr 1).congr HSTEP.out)
          have hB2 : RowKit.Hid (∀ p, p < s.size → ((wr.setCell ⟨w.heap.size, q, none⟩ (.int .u64 (wi (wordAt s.data.toList k q ||| byteW c)))).drew).cell? ⟨w.heap.size + 1, p, none⟩ = some (.int .u8 (wi (byteW (s.data.toList.getD p 0))))) := Lib.hid (fun p hp => (World.cell?_setCell_other wr ⟨w.heap.size, q, none⟩ ⟨w.heap.size + 1, p, none⟩ _ (by intro e; injection e; omega)).trans (HB.out p hp))
          go_roundw
          case rel => exact ⟨k + 1, by omega, by go_num, hT2.out, hB2⟩
          case measure => simp [intOf]; omega
      · have e2 : (k : Int) % 8 = 1 := by omega
        have e2' : (k : Int).tmod 8 = 1 := by rw [Int.tmod_eq_emod_of_nonneg (by omega)]; exact e2
        have e5 : IntKind.i64.wrap 8 = 8 := by decide
        have e6 : IntKind.u64.wrap (wi (byteW c) * 256) = wi (byteW c <<< 8) := by have h := shl_w (byteW c) 8; rw [show (2 : Int) ^ 8 = 256 by decide] at h; exact h
        have e3 : wi (byteW c) * 256 = wi (byteW c <<< 8) := by have h := shl_b c 8 (by omega); rw [show (2 : Int) ^ 8 = 256 by decide] at h; exact h
        have hstep : ∀ j, (fun j => if j = q then wordAt s.data.toList k q ||| (byteW c <<< 8) else wordAt s.data.toList k j) j = wordAt s.data.toList (k + 1) j := fun j => by
          show (if j = q then _ else _) = _
          rw [wordAt]
          rw [show k / 8 = q by omega, show k % 8 = 1 by omega]
          by_cases e : j = q
          · subst e; simp only [if_true]; rw [Hc.out]
          · rw [if_neg e, if_neg e]
        have HSTEP := Lib.hid hstep; clear hstep
        have e4 := or_w (wordAt s.data.toList k q) (byteW c <<< 8)
        go_wp2_with fail
        go_region_with (fail)
        all_goals
          go_wp2
          have hT2 := Lib.hid (((HT.out.set q hqN (wordAt s.data.toList k q ||| byteW c <<< 8)).dr 1).congr HSTEP.out)
          have hB2 : RowKit.Hid (∀ p, p < s.size → ((wr.setCell ⟨w.heap.size, q, none⟩ (.int .u64 (wi (wordAt s.data.toList k q ||| byteW c <<< 8)))).drew).cell? ⟨w.heap.size + 1, p, none⟩ = some (.int .u8 (wi (byteW (s.data.toList.getD p 0))))) := Lib.hid (fun p hp => (World.cell?_setCell_other wr ⟨w.heap.size, q, none⟩ ⟨w.heap.size + 1, p, none⟩ _ (by intro e; injection e; omega)).trans (HB.out p hp))
          go_roundw
          case rel => exact ⟨k + 1, by omega, by go_num, hT2.out, hB2⟩
          case measure => simp [intOf]; omega
      · have e2 : (k : Int) % 8 = 2 := by omega
        have e2' : (k : Int).tmod 8 = 2 := by rw [Int.tmod_eq_emod_of_nonneg (by omega)]; exact e2
        have e5 : IntKind.i64.wrap 16 = 16 := by decide
        have e6 : IntKind.u64.wrap (wi (byteW c) * 65536) = wi (byteW c <<< 16) := by have h := shl_w (byteW c) 16; rw [show (2 : Int) ^ 16 = 65536 by decide] at h; exact h
        have e3 : wi (byteW c) * 65536 = wi (byteW c <<< 16) := by have h := shl_b c 16 (by omega); rw [show (2 : Int) ^ 16 = 65536 by decide] at h; exact h
        have hstep : ∀ j, (fun j => if j = q then wordAt s.data.toList k q ||| (byteW c <<< 16) else wordAt s.data.toList k j) j = wordAt s.data.toList (k + 1) j := fun j => by
          show (if j = q then _ else _) = _
          rw [wordAt]
          rw [show k / 8 = q by omega, show k % 8 = 2 by omega]
          by_cases e : j = q
          · subst e; simp only [if_true]; rw [Hc.out]
          · rw [if_neg e, if_neg e]
        have HSTEP := Lib.hid hstep; clear hstep
        have e4 := or_w (wordAt s.data.toList k q) (byteW c <<< 16)
        go_wp2_with fail
        go_region_with (fail)
        all_goals
          go_wp2
          have hT2 := Lib.hid (((HT.out.set q hqN (wordAt s.data.toList k q ||| byteW c <<< 16)).dr 1).congr HSTEP.out)
          have hB2 : RowKit.Hid (∀ p, p < s.size → ((wr.setCell ⟨w.heap.size, q, none⟩ (.int .u64 (wi (wordAt s.data.toList k q ||| byteW c <<< 16)))).drew).cell? ⟨w.heap.size + 1, p, none⟩ = some (.int .u8 (wi (byteW (s.data.toList.getD p 0))))) := Lib.hid (fun p hp => (World.cell?_setCell_other wr ⟨w.heap.size, q, none⟩ ⟨w.heap.size + 1, p, none⟩ _ (by intro e; injection e; omega)).trans (HB.out p hp))
          go_roundw
          case rel => exact ⟨k + 1, by omega, by go_num, hT2.out, hB2⟩
          case measure => simp [intOf]; omega
      · have e2 : (k : Int) % 8 = 3 := by omega
        have e2' : (k : Int).tmod 8 = 3 := by rw [Int.tmod_eq_emod_of_nonneg (by omega)]; exact e2
        have e5 : IntKind.i64.wrap 24 = 24 := by decide
        have e6 : IntKind.u64.wrap (wi (byteW c) * 16777216) = wi (byteW c <<< 24) := by have h := shl_w (byteW c) 24; rw [show (2 : Int) ^ 24 = 16777216 by decide] at h; exact h
        have e3 : wi (byteW c) * 16777216 = wi (byteW c <<< 24) := by have h := shl_b c 24 (by omega); rw [show (2 : Int) ^ 24 = 16777216 by decide] at h; exact h
        have hstep : ∀ j, (fun j => if j = q then wordAt s.data.toList k q ||| (byteW c <<< 24) else wordAt s.data.toList k j) j = wordAt s.data.toList (k + 1) j := fun j => by
          show (if j = q then _ else _) = _
          rw [wordAt]
          rw [show k / 8 = q by omega, show k % 8 = 3 by omega]
          by_cases e : j = q
          · subst e; simp only [if_true]; rw [Hc.out]
          · rw [if_neg e, if_neg e]
        have HSTEP := Lib.hid hstep; clear hstep
        have e4 := or_w (wordAt s.data.toList k q) (byteW c <<< 24)
        go_wp2_with fail
        go_region_with (fail)
        all_goals
          go_wp2
          have hT2 := Lib.hid (((HT.out.set q hqN (wordAt s.data.toList k q ||| byteW c <<< 24)).dr 1).congr HSTEP.out)
          have hB2 : RowKit.Hid (∀ p, p < s.size → ((wr.setCell ⟨w.heap.size, q, none⟩ (.int .u64 (wi (wordAt s.data.toList k q ||| byteW c <<< 24)))).drew).cell? ⟨w.heap.size + 1, p, none⟩ = some (.int .u8 (wi (byteW (s.data.toList.getD p 0))))) := Lib.hid (fun p hp => (World.cell?_setCell_other wr ⟨w.heap.size, q, none⟩ ⟨w.heap.size + 1, p, none⟩ _ (by intro e; injection e; omega)).trans (HB.out p hp))
          go_roundw
          case rel => exact ⟨k + 1, by omega, by go_num, hT2.out, hB2⟩
          case measure => simp [intOf]; omega
      · have e2 : (k : Int) % 8 = 4 := by omega
        have e2' : (k : Int).tmod 8 = 4 := by rw [Int.tmod_eq_emod_of_nonneg (by omega)]; exact e2
        have e5 : IntKind.i64.wrap 32 = 32 := by decide
        have e6 : IntKind.u64.wrap (wi (byteW c) * 4294967296) = wi (byteW c <<< 32) := by have h := shl_w (byteW c) 32; rw [show (2 : Int) ^ 32 = 4294967296 by decide] at h; exact h
        have e3 : wi (byteW c) * 4294967296 = wi (byteW c <<< 32) := by have h := shl_b c 32 (by omega); rw [show (2 : Int) ^ 32 = 4294967296 by decide] at h; exact h
        have hstep : ∀ j, (fun j => if j = q then wordAt s.data.toList k q ||| (byteW c <<< 32) else wordAt s.data.toList k j) j = wordAt s.data.toList (k + 1) j := fun j => by
          show (if j = q then _ else _) = _
          rw [wordAt]
          rw [show k / 8 = q by omega, show k % 8 = 4 by omega]
          by_cases e : j = q
          · subst e; simp only [if_true]; rw [Hc.out]
          · rw [if_neg e, if_neg e]
        have HSTEP := Lib.hid hstep; clear hstep
        have e4 := or_w (wordAt s.data.toList k q) (byteW c <<< 32)
        go_wp2_with fail
        go_region_with (fail)
        all_goals
          go_wp2
          have hT2 := Lib.hid (((HT.out.set q hqN (wordAt s.data.toList k q ||| byteW c <<< 32)).dr 1).congr HSTEP.out)
          have hB2 : RowKit.Hid (∀ p, p < s.size → ((wr.setCell ⟨w.heap.size, q, none⟩ (.int .u64 (wi (wordAt s.data.toList k q ||| byteW c <<< 32)))).drew).cell? ⟨w.heap.size + 1, p, none⟩ = some (.int .u8 (wi (byteW (s.data.toList.getD p 0))))) := Lib.hid (fun p hp => (World.cell?_setCell_other wr ⟨w.heap.size, q, none⟩ ⟨w.heap.size + 1, p, none⟩ _ (by intro e; injection e; omega)).trans (HB.out p hp))
          go_roundw
          case rel => exact ⟨k + 1, by omega, by go_num, hT2.out, hB2⟩
          case measure => simp [intOf]; omega
      · have e2 : (k : Int) % 8 = 5 := by omega
        have e2' : (k : Int).tmod 8 = 5 := by rw [Int.tmod_eq_emod_of_nonneg (by omega)]; exact e2
        have e5 : IntKind.i64.wrap 40 = 40 := by decide
        have e6 : IntKind.u64.wrap (wi (byteW c) * 1099511627776) = wi (byteW c <<< 40) := by have h := shl_w (byteW c) 40; rw [show (2 : Int) ^ 40 = 1099511627776 by decide] at h; exact h
        have e3 : wi (byteW c) * 1099511627776 = wi (byteW c <<< 40) := by have h := shl_b c 40 (by omega); rw [show (2 : Int) ^ 40 = 1099511627776 by decide] at h; exact h
        have hstep : ∀ j, (fun j => if j = q then wordAt s.data.toList k q ||| (byteW c <<< 40) else wordAt s.data.toList k j) j = wordAt s.data.toList (k + 1) j := fun j => by
          show (if j = q then _ else _) = _
          rw [wordAt]
          rw [show k / 8 = q by omega, show k % 8 = 5 by omega]
          by_cases e : j = q
          · subst e; simp only [if_true]; rw [Hc.out]
          · rw [if_neg e, if_neg e]
        have HSTEP := Lib.hid hstep; clear hstep
        have e4 := or_w (wordAt s.data.toList k q) (byteW c <<< 40)
        go_wp2_with fail
        go_region_with (fail)
        all_goals
          go_wp2
          have hT2 := Lib.hid (((HT.out.set q hqN (wordAt s.data.toList k q ||| byteW c <<< 40)).dr 1).congr HSTEP.out)
          have hB2 : RowKit.Hid (∀ p, p < s.size → ((wr.setCell ⟨w.heap.size, q, none⟩ (.int .u64 (wi (wordAt s.data.toList k q ||| byteW c <<< 40)))).drew).cell? ⟨w.heap.size + 1, p, none⟩ = some (.int .u8 (wi (byteW (s.data.toList.getD p 0))))) := Lib.hid (fun p hp => (World.cell?_setCell_other wr ⟨w.heap.size, q, none⟩ ⟨w.heap.size + 1, p, none⟩ _ (by intro e; injection e; omega)).trans (HB.out p hp))
          go_roundw
          case rel => exact ⟨k + 1, by omega, by go_num, hT2.out, hB2⟩
          case measure => simp [intOf]; omega
      · have e2 : (k : Int) % 8 = 6 := by omega
        have e2' : (k : Int).tmod 8 = 6 := by rw [Int.tmod_eq_emod_of_nonneg (by omega)]; exact e2
        have e5 : IntKind.i64.wrap 48 = 48 := by decide
        have e6 : IntKind.u64.wrap (wi (byteW c) * 281474976710656) = wi (byteW c <<< 48) := by have h := shl_w (byteW c) 48; rw [show (2 : Int) ^ 48 = 281474976710656 by decide] at h; exact h
        have e3 : wi (byteW c) * 281474976710656 = wi (byteW c <<< 48) := by have h := shl_b c 48 (by omega); rw [show (2 : Int) ^ 48 = 281474976710656 by decide] at h; exact h
        have hstep : ∀ j, (fun j => if j = q then wordAt s.data.toList k q ||| (byteW c <<< 48) else wordAt s.data.toList k j) j = wordAt s.data.toList (k + 1) j := fun j => by
          show (if j = q then _ else _) = _
          rw [wordAt]
          rw [show k / 8 = q by omega, show k % 8 = 6 by omega]
          by_cases e : j = q
          · subst e; simp only [if_true]; rw [Hc.out]
          · rw [if_neg e, if_neg e]
        have HSTEP := Lib.hid hstep; clear hstep
        have e4 := or_w (wordAt s.data.toList k q) (byteW c <<< 48)
        go_wp2_with fail
        go_region_with (fail)
        all_goals
          go_wp2
          have hT2 := Lib.hid (((HT.out.set q hqN (wordAt s.data.toList k q ||| byteW c <<< 48)).dr 1).congr HSTEP.out)
          have hB2 : RowKit.Hid (∀ p, p < s.size → ((wr.setCell ⟨w.heap.size, q, none⟩ (.int .u64 (wi (wordAt s.data.toList k q ||| byteW c <<< 48)))).drew).cell? ⟨w.heap.size + 1, p, none⟩ = some (.int .u8 (wi (byteW (s.data.toList.getD p 0))))) := Lib.hid (fun p hp => (World.cell?_setCell_other wr ⟨w.heap.size, q, none⟩ ⟨w.heap.size + 1, p, none⟩ _ (by intro e; injection e; omega)).trans (HB.out p hp))
          go_roundw
          case rel => exact ⟨k + 1, by omega, by go_num, hT2.out, hB2⟩
          case measure => simp [intOf]; omega
      · have e2 : (k : Int) % 8 = 7 := by omega
        have e2' : (k : Int).tmod 8 = 7 := by rw [Int.tmod_eq_emod_of_nonneg (by omega)]; exact e2
        have e5 : IntKind.i64.wrap 56 = 56 := by decide
        have e6 : IntKind.u64.wrap (wi (byteW c) * 72057594037927936) = wi (byteW c <<< 56) := by have h := shl_w (byteW c) 56; rw [show (2 : Int) ^ 56 = 72057594037927936 by decide] at h; exact h
        have e3 : wi (byteW c) * 72057594037927936 = wi (byteW c <<< 56) := by have h := shl_b c 56 (by omega); rw [show (2 : Int) ^ 56 = 72057594037927936 by decide] at h; exact h
        have hstep : ∀ j, (fun j => if j = q then wordAt s.data.toList k q ||| (byteW c <<< 56) else wordAt s.data.toList k j) j = wordAt s.data.toList (k + 1) j := fun j => by
          show (if j = q then _ else _) = _
          rw [wordAt]
          rw [show k / 8 = q by omega, show k % 8 = 7 by omega]
          by_cases e : j = q
          · subst e; simp only [if_true]; rw [Hc.out]
          · rw [if_neg e, if_neg e]
        have HSTEP := Lib.hid hstep; clear hstep
        have e4 := or_w (wordAt s.data.toList k q) (byteW c <<< 56)
        go_wp2_with fail
        go_region_with (fail)
        all_goals
          go_wp2
          have hT2 := Lib.hid (((HT.out.set q hqN (wordAt s.data.toList k q ||| byteW c <<< 56)).dr 1).congr HSTEP.out)
          have hB2 : RowKit.Hid (∀ p, p < s.size → ((wr.setCell ⟨w.heap.size, q, none⟩ (.int .u64 (wi (wordAt s.data.toList k q ||| byteW c <<< 56)))).drew).cell? ⟨w.heap.size + 1, p, none⟩ = some (.int .u8 (wi (byteW (s.data.toList.getD p 0))))) := Lib.hid (fun p hp => (World.cell?_setCell_other wr ⟨w.heap.size, q, none⟩ ⟨w.heap.size + 1, p, none⟩ _ (by intro e; injection e; omega)).trans (HB.out p hp))
          go_roundw
          case rel => exact ⟨k + 1, by omega, by go_num, hT2.out, hB2⟩
          case measure => simp [intOf]; omega
    · obtain rfl : k = s.size := by omega
      have hNq : N = s.size / 8 + 1 := HN.out
      obtain ⟨q, hq⟩ : ∃ q : Nat, q = s.size / 8 := ⟨_, rfl⟩
      have hqN : q < N := by omega
      have cq := hT.cell q hqN
      have fq := hT.froz q
      have i0 : (0 : Int) ≤ (q : Int) := by omega
      have hqb : (q : Int) ≤ 140737488351232 := by omega
      have i1 : (q : Int) < (N : Int) := by omega
      have e1 : (N : Int) - 1 = (q : Int) := by omega
      have e2 : IntKind.u64.wrap ((s.size : Int) * 72057594037927936) = wi (BitVec.ofNat 64 s.size <<< 56) := by
        have h := shl_w (BitVec.ofNat 64 s.size) 56
        have h2 : wi (BitVec.ofNat 64 s.size) = (s.size : Int) := by
          unfold wi; rw [BitVec.toNat_ofNat, Nat.mod_eq_of_lt (by omega)]
        rw [h2, show (2 : Int) ^ 56 = 72057594037927936 by decide] at h
        exact h
      have e4 := or_w (wordAt s.data.toList s.size q) (BitVec.ofNat 64 s.size <<< 56)
      have hfin := (hT.set q hqN (wordAt s.data.toList s.size q ||| BitVec.ofNat 64 s.size <<< 56))
      have hll : s.data.toList.length = s.size := by simp
      have hlen : (words s.data.toList).length = N := by unfold words; simp; omega
      have hget : ∀ i (hi : i < (words s.data.toList).length), (words s.data.toList)[i] = if i = q then wordAt s.data.toList s.size q ||| BitVec.ofNat 64 s.size <<< 56 else wordAt s.data.toList s.size i := fun i hi => by
        unfold words
        simp only [List.getElem_map, List.getElem_range, hll]
        rw [← hq]
        by_cases e : i = q
        · subst e; simp
        · simp [e]
      have HFIN := Lib.hid hfin; have HLEN := Lib.hid hlen; have HGET := Lib.hid hget
      have hNb : N ≤ 140737488355328 := by omega
      clear hfin hlen hget hll hNq HN hT HB hlt hk hq hN1
      go_wp2
      go_ret
      have hf := HFIN.out
      refine ⟨w.heap.size, N, rfl, Nat.le_refl _, hf.lt, HLEN.out.symm, by omega, fun i hi => ?_, hf.below⟩
      rw [hf.cell i hi, List.getD_eq_getElem?_getD, List.getElem?_eq_getElem (by rw [HLEN.out]; exact hi)]
      simp only [Option.getD_some]
      rw [HGET.out i (by rw [HLEN.out]; exact hi)]
end Tg
end Go.Proofs.YtdfdjampodkpgaaDoor
end

/-! TagOf -/
section
/- The tag of a text. -/
set_option linter.unusedSimpArgs false
set_option linter.unusedVariables false
namespace Go.Proofs.YtdfdjampodkpgaaDoor
open Go.RowKit
namespace Tg
theorem S4.next {B : Nat} {W w w' : World} {g : Nat} {v : S} (h : S4 B W w g v) (hb : Below w.heap.size w w') (hB : B ≤ w.heap.size) : S4 B W w' g v :=
  ⟨h.below.trans (hb.mono hB), h.ge, kl hb h.lt, kp hb h.c0, kp hb h.c1, kp hb h.c2, kp hb h.c3, fun j => (hb.frozen (p := ⟨g, j, none⟩) h.lt).trans (h.fr j)⟩
def set4 (w : World) (g : Nat) (v : S) : World := (((w.setCell ⟨g, 0, none⟩ (.int .u64 (wi v.a))).setCell ⟨g, 1, none⟩ (.int .u64 (wi v.b))).setCell ⟨g, 2, none⟩ (.int .u64 (wi v.c))).setCell ⟨g, 3, none⟩ (.int .u64 (wi v.d))
theorem S4.put {B : Nat} {W w : World} {g : Nat} {v : S} (h : S4 B W w g v) (u : S) : S4 B W (set4 w g u) g u := (((h.set0 u.a).set1 u.b).set2 u.c).set3 u.d
theorem set4_far (w : World) (g : Nat) (v : S) (b o : Nat) (h : b ≠ g) : (set4 w g v).cell? ⟨b, o, none⟩ = w.cell? ⟨b, o, none⟩ := by
  have e : ∀ k, (⟨g, k, none⟩ : Addr) ≠ ⟨b, o, none⟩ := fun k x => by injection x with x; exact h x.symm
  unfold set4
  rw [World.cell?_setCell_other _ _ _ _ (e 3), World.cell?_setCell_other _ _ _ _ (e 2), World.cell?_setCell_other _ _ _ _ (e 1), World.cell?_setCell_other _ _ _ _ (e 0)]
theorem st4 (w : World) (v : S) (t : TypeId) : S4 w.heap.size w (w.alloc (.cells #[.int .u64 (wi v.a), .int .u64 (wi v.b), .int .u64 (wi v.c), .int .u64 (wi v.d)] t)) w.heap.size v := by
  refine ⟨(br w).alloc (Nat.le_refl _) _, Nat.le_refl _, by simp, ?_, ?_, ?_, ?_, fun j => ?_⟩
  · rw [World.cell?_alloc_mark]; rfl
  · rw [World.cell?_alloc_mark]; rfl
  · rw [World.cell?_alloc_mark]; rfl
  · rw [World.cell?_alloc_mark]; rfl
  · rw [World.frozen?_alloc_mark]; simp
theorem fold_snoc (l : List W64) (k : Nat) (h : k < l.length) (v : S) : (l.take (k + 1)).foldl take v = take ((l.take k).foldl take v) (l.getD k 0) := by
  rw [List.getD_eq_getElem?_getD, List.getElem?_eq_getElem h]
  have : l.take (k + 1) = l.take k ++ [l[k]] := by simp
  rw [this, List.foldl_append]; rfl
set_option maxHeartbeats 2000000 in
theorem of_any (a b : W64) (s : ByteArray) (w : World) (hs : s.size ≤ 140737488351232) : Calls Tryd.prog 77 #[aK a b, .string s] w fun e w' => e = .returned (.int .u64 (wi (tagF a b s.data.toList))) ∧ Below w.heap.size w w' := by
  unfold aK
  go_enter Tryd.func77, Tryd.ntmps77
  go_wp2_with fail
  refine (start_any a b _).mono ?_
  rintro en w1 ⟨rfl, hb1⟩
  obtain ⟨st, hst⟩ : ∃ st, start a b = st := ⟨_, rfl⟩
  rw [hst]
  unfold aS
  have HST := Lib.hid hst; clear hst
  have hB1 : Below w.heap.size w w1 := bt ((br w).alloc (Nat.le_refl _) _) hb1
  have h4 := st4 w1 st 126
  have H4 := Lib.hid h4; clear h4
  go_wp2_with fail
  refine (words_any s _ hs).mono ?_
  rintro en w2 ⟨g, N, rfl, hge, hlt, hN, hNb, hcells, hb2⟩
  have h5 := H4.out.next hb2 (by simp)
  have HW := Lib.hid hcells; have HN := Lib.hid hN
  have hgV : g ≠ w1.heap.size := by simp at hge; omega
  have hV : w1.heap.size < w2.heap.size := h5.lt
  have H5 := Lib.hid h5
  clear hcells hN h5 H4 hge hb2
  go_wp2
  go_loopw [13] (fun i wr => ∃ k : Nat, k ≤ N ∧ i = .int .i64 k ∧ S4 w1.heap.size w1 wr w1.heap.size (((words s.data.toList).take k).foldl take st) ∧ g < wr.heap.size ∧ RowKit.Hid (∀ i, i < N → wr.cell? ⟨g, i, none⟩ = some (.int .u64 (wi ((words s.data.toList).getD i 0))))) (fun i _ => N - (intOf i).toNat)
  case atStart => exact ⟨0, Nat.zero_le _, rfl, H5.out, hlt, HW⟩
  case round =>
    obtain ⟨k, hk, rfl, hS, hgl, HC⟩ := hrel
    clear H5 HW
    have c0 := hS.c0; have c1 := hS.c1; have c2 := hS.c2; have c3 := hS.c3
    by_cases hkN : k < N
    · have ck := HC.out k hkN
      have hsn := fold_snoc (words s.data.toList) k (by have := HN.out; omega) st
      have hf : ∀ j, w.heap.size = j → True := fun _ _ => trivial
      clear hf
      have HSN := Lib.hid hsn; clear hsn
      generalize ((words s.data.toList).take k).foldl take st = v at *
      generalize (words s.data.toList).getD k 0 = m at *
      have HS := Lib.hid hS
      have hsz := hS.below.size
      clear hS
      go_wp2_with fail
      refine (take_any v m _).mono ?_
      rintro en w3 ⟨rfl, hb3⟩
      have h6 := HS.out.next hb3 hsz
      unfold aS
      have f0 := h6.fr 0; have f1 := h6.fr 1; have f2 := h6.fr 2; have f3 := h6.fr 3
      have d0 := h6.c0; have d1 := h6.c1; have d2 := h6.c2; have d3 := h6.c3
      have h7 := Lib.hid (h6.put (take v m))
      have hgl3 : g < w3.heap.size := kl hb3 hgl
      have hC7 : RowKit.Hid (∀ i, i < N → (set4 w3 w1.heap.size (take v m)).cell? ⟨g, i, none⟩ = some (.int .u64 (wi ((words s.data.toList).getD i 0)))) := Lib.hid (fun i hi => (set4_far w3 _ _ g i hgV).trans ((hb3.cell (p := ⟨g, i, none⟩) hgl).trans (HC.out i hi)))
      have hsz7 : g < (set4 w3 w1.heap.size (take v m)).heap.size := by unfold set4; simpa using hgl3
      clear h6 hb3 c0 c1 c2 c3
      go_wp2
      go_roundw
      case rel => exact ⟨k + 1, by omega, by go_num, by rw [HSN.out]; exact h7.out, hsz7, hC7⟩
      case measure => simp [intOf]; omega
    · have hkN' : k = (words s.data.toList).length := by have := HN.out; omega
      have hall : ((words s.data.toList).take k).foldl take st = (words s.data.toList).foldl take st := by rw [hkN', List.take_length]
      have hres : finish (((words s.data.toList).take k).foldl take st) = tagF a b s.data.toList := by rw [hall, ← HST.out]; rfl
      have HR := Lib.hid hres
      have hsz := hS.below
      clear hres hall hkN'
      generalize ((words s.data.toList).take k).foldl take st = v at *
      clear hS
      go_wp2_with fail
      refine (finish_any v _).mono ?_
      rintro en w3 ⟨rfl, hb3⟩
      go_wp2
      go_ret
      exact ⟨by rw [← HR.out]; rfl, bt (hB1.trans (hsz.mono hB1.size)) hb3⟩
end Tg
end Go.Proofs.YtdfdjampodkpgaaDoor
end
