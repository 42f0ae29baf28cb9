/- Package tag: finish and start. -/
import Derived.Test.YtmeoeihfgmmgmaaTagWalks3
set_option linter.unusedVariables false
namespace Go.Proofs.Ytmeoeihfgmmgmaa
open Go.RowKit
namespace Tg
def w2 (w : World) (v u : S) (t1 t2 : TypeId) : World := (w.alloc (.cells #[.int .u64 (wi v.a), .int .u64 (wi v.b), .int .u64 (wi v.c), .int .u64 (wi v.d)] t1)).alloc (.cells #[.int .u64 (wi u.a), .int .u64 (wi u.b), .int .u64 (wi u.c), .int .u64 (wi u.d)] t2)
theorem w2_st (w : World) (v u : S) (t1 t2 : TypeId) : S4 (w.heap.size + 1) (w2 w v u t1 t2) (w2 w v u t1 t2) (w.heap.size + 1) u := by
  have hs : (w.alloc (.cells #[.int .u64 (wi v.a), .int .u64 (wi v.b), .int .u64 (wi v.c), .int .u64 (wi v.d)] t1)).heap.size = w.heap.size + 1 := by simp
  unfold w2
  refine ⟨Below.refl _ _, Nat.le_refl _, by simp, ?_, ?_, ?_, ?_, fun j => ?_⟩
  · rw [← hs, World.cell?_alloc_mark]; rfl
  · rw [← hs, World.cell?_alloc_mark]; rfl
  · rw [← hs, World.cell?_alloc_mark]; rfl
  · rw [← hs, World.cell?_alloc_mark]; rfl
  · rw [← hs, World.frozen?_alloc_mark]; simp
theorem w2_below (w : World) (v u : S) (t1 t2 : TypeId) : Below w.heap.size w (w2 w v u t1 t2) := by
  unfold w2
  exact ((br w).alloc (Nat.le_refl _) _).alloc (by simp) _
theorem ix0 (a b c d : Value) (w : World) : (Instr.index 66 (.agg #[a, b, c, d]) (.int .i64 0)).run Try.prog w = .ok a w := by kernel_rfl
theorem ix1 (a b c d : Value) (w : World) : (Instr.index 66 (.agg #[a, b, c, d]) (.int .i64 1)).run Try.prog w = .ok b w := by kernel_rfl
theorem ix2 (a b c d : Value) (w : World) : (Instr.index 66 (.agg #[a, b, c, d]) (.int .i64 2)).run Try.prog w = .ok c w := by kernel_rfl
theorem ix3 (a b c d : Value) (w : World) : (Instr.index 66 (.agg #[a, b, c, d]) (.int .i64 3)).run Try.prog w = .ok d w := by kernel_rfl
set_option maxHeartbeats 1000000 in
theorem finish_any (v : S) (w : World) : Calls Try.prog 36 #[aS v] w fun e w' => e = .returned (.int .u64 (wi (finish v))) ∧ Below w.heap.size w w' := by
  unfold aS
  have e1 : bits .xor .u64 (wi v.c) 255 = wi (v.c ^^^ 255) := xor_w v.c 255
  have hst := w2_st w v ⟨v.a, v.b, v.c ^^^ 255, v.d⟩ 59 66
  have hbl := w2_below w v ⟨v.a, v.b, v.c ^^^ 255, v.d⟩ 59 66
  have HST := Lib.hid hst
  clear hst
  go_enter Try.func36, Try.ntmps36
  go_wp2
  refine wp_loop_rounds 5 ?_
  rw [rounds_succ]
  go_wp2_with fail
  refine (round_any _ _ _ _ _ HST.out).mono ?_
  rintro en u1 ⟨rfl, h1⟩
  have H1 := Lib.hid h1; clear h1
  go_wp2
  rw [rounds_succ]
  go_wp2_with fail
  refine (round_any _ _ _ _ _ H1.out).mono ?_
  rintro en u2 ⟨rfl, h2⟩
  have H2 := Lib.hid h2; clear h2
  go_wp2
  rw [rounds_succ]
  go_wp2_with fail
  refine (round_any _ _ _ _ _ H2.out).mono ?_
  rintro en u3 ⟨rfl, h3⟩
  have H3 := Lib.hid h3; clear h3
  go_wp2
  rw [rounds_succ]
  go_wp2_with fail
  refine (round_any _ _ _ _ _ H3.out).mono ?_
  rintro en u4 ⟨rfl, h4⟩
  obtain ⟨R, hR⟩ : ∃ R, round (round (round (round ⟨v.a, v.b, v.c ^^^ 255, v.d⟩))) = R := ⟨_, rfl⟩
  have hF : finish v = 0 ^^^ R.a ^^^ R.b ^^^ R.c ^^^ R.d := by unfold finish; rw [hR]
  rw [hR] at h4
  have HF := Lib.hid hF
  clear hF hR
  have b0 := h4.c0; have b1 := h4.c1; have b2 := h4.c2; have b3 := h4.c3
  have hB : Below w.heap.size w u4 := hbl.trans (h4.below.mono (by omega))
  clear h4 H1 H2 H3 HST e1 hbl
  have x0 : bits .xor .u64 0 (wi R.a) = wi (0 ^^^ R.a) := xor_w 0 R.a
  have x1 := xor_w (0 ^^^ R.a) R.b
  have x2 := xor_w (0 ^^^ R.a ^^^ R.b) R.c
  have x3 := xor_w (0 ^^^ R.a ^^^ R.b ^^^ R.c) R.d
  have i0 := ix0 (.int .u64 (wi R.a)) (.int .u64 (wi R.b)) (.int .u64 (wi R.c)) (.int .u64 (wi R.d))
  have i1 := ix1 (.int .u64 (wi R.a)) (.int .u64 (wi R.b)) (.int .u64 (wi R.c)) (.int .u64 (wi R.d))
  have i2 := ix2 (.int .u64 (wi R.a)) (.int .u64 (wi R.b)) (.int .u64 (wi R.c)) (.int .u64 (wi R.d))
  have i3 := ix3 (.int .u64 (wi R.a)) (.int .u64 (wi R.b)) (.int .u64 (wi R.c)) (.int .u64 (wi R.d))
  go_wp2
  rw [rounds_succ]
  go_wp2
  refine wp_loop_rounds 5 ?_
  rw [rounds_succ]
  go_wp2
  rw [rounds_succ]
  go_wp2
  rw [rounds_succ]
  go_wp2
  rw [rounds_succ]
  go_wp2
  rw [rounds_succ]
  go_wp2
  go_ret
  exact ⟨by rw [HF.out]; first | rfl | (simp; rw [xor_w, xor_w, xor_w]), hB⟩
def aK (a b : W64) : Value := .agg #[.int .u64 (wi a), .int .u64 (wi b)]
set_option maxHeartbeats 1000000 in
theorem start_any (a b : W64) (w : World) : Calls Try.prog 33 #[aK a b] w fun e w' => e = .returned (aS (start a b)) ∧ Below w.heap.size w w' := by
  unfold aK aS
  have e1 : bits .xor .u64 (wi a) 8317987319222330741 = wi (a ^^^ 8317987319222330741) := xor_w a 8317987319222330741
  have e2 : bits .xor .u64 (wi b) 7237128888997146477 = wi (b ^^^ 7237128888997146477) := xor_w b 7237128888997146477
  have e3 : bits .xor .u64 (wi a) 7816392313619706465 = wi (a ^^^ 7816392313619706465) := xor_w a 7816392313619706465
  have e4 : bits .xor .u64 (wi b) 8387220255154660723 = wi (b ^^^ 8387220255154660723) := xor_w b 8387220255154660723
  go_enter Try.func33, Try.ntmps33
  go_wp2
  refine bodyPost_ret (v := aS (start a b)) (by simp [results, Try.results33, go_sem, aS, start]) rfl ⟨rfl, ((br w).alloc (Nat.le_refl _) _).alloc (by simp) _⟩
/-! ### words of a text -/
def byteW (b : UInt8) : W64 := BitVec.ofNat 64 b.toNat
/-- word j, when the first k bytes are in -/
def wordAt (l : List UInt8) : Nat → Nat → W64
  | 0, _ => 0
  | k + 1, j => if j = k / 8 then wordAt l k j ||| (byteW (l.getD k 0) <<< (8 * (k % 8))) else wordAt l k j
def words (l : List UInt8) : List W64 :=
  (List.range (l.length / 8 + 1)).map (fun j => if j = l.length / 8 then wordAt l l.length j ||| (BitVec.ofNat 64 l.length <<< 56) else wordAt l l.length j)
def tagF (a b : W64) (l : List UInt8) : W64 := finish ((words l).foldl take (start a b))
theorem tag_0 : tagF 506097522914230528 1084818905618843912 [] = 8246050544436514353 := by decide +kernel
theorem tag_1 : tagF 506097522914230528 1084818905618843912 [0] = 8428550223375919101 := by decide +kernel
theorem tag_15 : tagF 506097522914230528 1084818905618843912 [0, 1, 2, 3, 4, 5, 6, 7, 8, 9, 10, 11, 12, 13, 14] = 11613035633349379557 := by decide +kernel
end Tg
end Go.Proofs.Ytmeoeihfgmmgmaa
