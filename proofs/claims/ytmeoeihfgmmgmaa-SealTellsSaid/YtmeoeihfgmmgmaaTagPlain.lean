/- Words of 64 bits: plain facts on sums, exclusive ors and turns. -/
import Derived.Test.YtmeoeihfgmmgmaaBase
import Derived.Laws.Bits64
import Derived.Laws.Bits64b
namespace Go.Proofs.Ytmeoeihfgmmgmaa
open Go.RowKit
namespace Tg
abbrev W64 := BitVec 64
def wi (x : W64) : Int := (x.toNat : Int)
theorem rot_rot (x : W64) (a b : Nat) (h : a + b = 64) (hb : 0 < b) (ha0 : 0 < a) : (x.rotateLeft a).rotateLeft b = x := by
  apply BitVec.eq_of_getLsbD_eq
  intro i hi
  rw [BitVec.getLsbD_rotateLeft]
  simp only [BitVec.getLsbD_rotateLeft, Nat.mod_eq_of_lt (show a < 64 by omega), Nat.mod_eq_of_lt (show b < 64 by omega)]
  by_cases h1 : i < b
  · have e1 : ¬ 64 - b + i < a := by omega
    have e2 : 64 - b + i < 64 := by omega
    have e3 : 64 - b + i - a = i := by omega
    simp [h1, e1, e2, e3]
  · have e1 : i - b < a := by omega
    have e3 : 64 - a + (i - b) = i := by omega
    simp [h1, e1, e3, hi]
theorem wi_bd (x : W64) : 0 ≤ wi x ∧ wi x ≤ 18446744073709551615 := by have := x.isLt; unfold wi; omega
theorem add_w (a b : W64) : IntKind.u64.wrap (wi a + wi b) = wi (a + b) := by
  unfold wi; rw [IntKind.wrap_u64, BitVec.toNat_add]; omega
theorem sub_w (a b : W64) : IntKind.u64.wrap (wi a - wi b) = wi (a - b) := by
  unfold wi; rw [IntKind.wrap_u64, BitVec.toNat_sub]; have := a.isLt; have := b.isLt; omega
theorem xor_w (a b : W64) : bits .xor .u64 (wi a) (wi b) = wi (a ^^^ b) := by
  unfold wi; rw [bits_xor_u64_nat _ _ a.isLt b.isLt, BitVec.toNat_xor]
theorem or_w (a b : W64) : bits .or .u64 (wi a) (wi b) = wi (a ||| b) := by
  unfold wi; rw [bits_or_u64_nat _ _ a.isLt b.isLt, BitVec.toNat_or]
theorem shl_w (x : W64) (k : Nat) : IntKind.u64.wrap (wi x * 2 ^ k) = wi (x <<< k) := by
  unfold wi; rw [IntKind.wrap_u64, BitVec.toNat_shiftLeft, Nat.shiftLeft_eq]
  have : (x.toNat : Int) * 2 ^ k = ((x.toNat * 2 ^ k : Nat) : Int) := by simp
  rw [this]; omega
theorem shr_w (x : W64) (k : Nat) : wi x / 2 ^ k = wi (x >>> k) := by
  unfold wi; rw [BitVec.toNat_ushiftRight, Nat.shiftRight_eq_div_pow]
  simp
theorem rotl_w (x : W64) (k : Nat) (h : k < 64) : (x <<< k) ||| (x >>> (64 - k)) = x.rotateLeft k := by
  rw [BitVec.rotateLeft_def, Nat.mod_eq_of_lt h]
/-! ### a state of four words -/
structure S where
  a : W64
  b : W64
  c : W64
  d : W64
deriving DecidableEq
def round (v : S) : S :=
  let a1 := v.a + v.b
  let b1 := v.b.rotateLeft 13 ^^^ a1
  let a2 := a1.rotateLeft 32
  let c1 := v.c + v.d
  let d1 := v.d.rotateLeft 16 ^^^ c1
  let a3 := a2 + d1
  let d2 := d1.rotateLeft 21 ^^^ a3
  let c2 := c1 + b1
  let b2 := b1.rotateLeft 17 ^^^ c2
  ⟨a3, b2, c2.rotateLeft 32, d2⟩
def back (v : S) : S :=
  let c2 := v.c.rotateLeft 32
  let b1 := (v.b ^^^ c2).rotateLeft 47
  let c1 := c2 - b1
  let d1 := (v.d ^^^ v.a).rotateLeft 43
  let a2 := v.a - d1
  let d := (d1 ^^^ c1).rotateLeft 48
  let c := c1 - d
  let a1 := a2.rotateLeft 32
  let b := (b1 ^^^ a1).rotateLeft 51
  ⟨a1 - b, b, c, d⟩
theorem xx (x y : W64) : x ^^^ y ^^^ y = x := by rw [BitVec.xor_assoc, BitVec.xor_self, BitVec.xor_zero]
theorem back_round (v : S) : back (round v) = v := by
  obtain ⟨a, b, c, d⟩ := v
  simp only [back, round, xx, rot_rot _ 32 32 rfl (by omega) (by omega), rot_rot _ 17 47 rfl (by omega) (by omega), rot_rot _ 21 43 rfl (by omega) (by omega), rot_rot _ 16 48 rfl (by omega) (by omega), rot_rot _ 13 51 rfl (by omega) (by omega), BitVec.add_sub_cancel]
theorem sub_add (x y : W64) : x - y + y = x := BitVec.sub_add_cancel x y
theorem round_back (v : S) : round (back v) = v := by
  obtain ⟨a, b, c, d⟩ := v
  simp only [back, round, xx, sub_add, rot_rot _ 32 32 rfl (by omega) (by omega), rot_rot _ 47 17 rfl (by omega) (by omega), rot_rot _ 43 21 rfl (by omega) (by omega), rot_rot _ 48 16 rfl (by omega) (by omega), rot_rot _ 51 13 rfl (by omega) (by omega)]
def take (v : S) (m : W64) : S :=
  let r := round (round ⟨v.a, v.b, v.c, v.d ^^^ m⟩)
  ⟨r.a ^^^ m, r.b, r.c, r.d⟩
def finish (v : S) : W64 :=
  let r := round (round (round (round ⟨v.a, v.b, v.c ^^^ 255, v.d⟩)))
  0 ^^^ r.a ^^^ r.b ^^^ r.c ^^^ r.d
def start (a b : W64) : S := ⟨a ^^^ 8317987319222330741, b ^^^ 7237128888997146477, a ^^^ 7816392313619706465, b ^^^ 8387220255154660723⟩
theorem take_back (v : S) (m : W64) : (let t := take v m; let r := back (back ⟨t.a ^^^ m, t.b, t.c, t.d⟩); (⟨r.a, r.b, r.c, r.d ^^^ m⟩ : S)) = v := by
  obtain ⟨a, b, c, d⟩ := v
  simp only [take, xx]
  rw [show ∀ r : S, (⟨r.a, r.b, r.c, r.d⟩ : S) = r from fun _ => rfl, back_round, back_round]
  simp [xx]
theorem take_inj (v w : S) (m : W64) (h : take v m = take w m) : v = w := by
  have h1 := take_back v m
  have h2 := take_back w m
  rw [h] at h1
  rw [← h1]; exact h2
end Tg
end Go.Proofs.Ytmeoeihfgmmgmaa
