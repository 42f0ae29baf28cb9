/- What is shared out: what must be in any case; ShareTells. -/
import Derived.Test.YtblbhkcnmkcdfaaJeffR
import Derived.Test.YtblbhkcnmkcdfaaShareE
import Derived.Test.YtblbhkcnmkcdfaaShareG
import Derived.Test.YtblbhkcnmkcdfaaSame
set_option linter.unusedSimpArgs false
set_option linter.unusedVariables false
namespace Go.Proofs.Ytblbhkcnmkcdfaa
open Go.RowKit
namespace Sh
open Stb
theorem best_congr {ws : List Int} {f g : Nat → Int} : ∀ k, (∀ i, i ≤ k → f i = g i) → best ws f k = best ws g k
  | 0, _ => rfl
  | k + 1, h => by
    have ih := best_congr (ws := ws) k (fun i hi => h i (by omega))
    have hl := best_le ws g k
    rw [best_succ, best_succ, ih, h (k + 1) (Nat.le_refl _), h _ (by omega)]
def stepL (ws : List Int) (n : Nat) (l : List Int) : List Int := l.set (best ws (fun i => l.getD i 0) (n - 1)) (l.getD (best ws (fun i => l.getD i 0) (n - 1)) 0 + 1)
theorem jf_step (ws : List Int) (n s : Nat) (hn : 0 < n) : lst n (jf ws n (s + 1)) = stepL ws n (lst n (jf ws n s)) := by
  have hg : ∀ i, i < n → (lst n (jf ws n s)).getD i 0 = jf ws n s i := fun i hi => by simp [lst, hi]
  have hb : best ws (fun i => (lst n (jf ws n s)).getD i 0) (n - 1) = best ws (jf ws n s) (n - 1) := best_congr _ (fun i hi => hg i (by omega))
  have hl := best_le ws (jf ws n s) (n - 1)
  unfold stepL
  rw [hb, hg _ (by omega)]
  apply List.ext_getElem
  · simp [lst]
  · intro i h1 h2
    simp only [lst, List.getElem_map, List.getElem_range, List.getElem_set, jf]
    by_cases c : i = best ws (jf ws n s) (n - 1)
    · rw [if_pos c, if_pos c.symm, ← c]
    · rw [if_neg c, if_neg (fun e => c e.symm)]
theorem jef_begun : jefR 10 [6, 3, 1, 1] = [6, 3, 1, 0] := by
  have h0 : lst 4 (jf [6, 3, 1, 1] 4 0) = [0, 0, 0, 0] := by decide
  have h : ∀ s l l', lst 4 (jf [6, 3, 1, 1] 4 s) = l → stepL [6, 3, 1, 1] 4 l = l' → lst 4 (jf [6, 3, 1, 1] 4 (s + 1)) = l' := fun s l l' e1 e2 => by rw [jf_step _ _ _ (by omega), e1, e2]
  have h1 := h 0 _ _ h0 (show stepL [6, 3, 1, 1] 4 [0, 0, 0, 0] = [1, 0, 0, 0] by decide)
  have h2 := h 1 _ _ h1 (show stepL [6, 3, 1, 1] 4 [1, 0, 0, 0] = [2, 0, 0, 0] by decide)
  have h3 := h 2 _ _ h2 (show stepL [6, 3, 1, 1] 4 [2, 0, 0, 0] = [2, 1, 0, 0] by decide)
  have h4 := h 3 _ _ h3 (show stepL [6, 3, 1, 1] 4 [2, 1, 0, 0] = [3, 1, 0, 0] by decide)
  have h5 := h 4 _ _ h4 (show stepL [6, 3, 1, 1] 4 [3, 1, 0, 0] = [4, 1, 0, 0] by decide)
  have h6 := h 5 _ _ h5 (show stepL [6, 3, 1, 1] 4 [4, 1, 0, 0] = [4, 2, 0, 0] by decide)
  have h7 := h 6 _ _ h6 (show stepL [6, 3, 1, 1] 4 [4, 2, 0, 0] = [5, 2, 0, 0] by decide)
  have h8 := h 7 _ _ h7 (show stepL [6, 3, 1, 1] 4 [5, 2, 0, 0] = [6, 2, 0, 0] by decide)
  have h9 := h 8 _ _ h8 (show stepL [6, 3, 1, 1] 4 [6, 2, 0, 0] = [6, 3, 0, 0] by decide)
  have h10 := h 9 _ _ h9 (show stepL [6, 3, 1, 1] 4 [6, 3, 0, 0] = [6, 3, 1, 0] by decide)
  have he : allE 10 [6, 3, 1, 1] = 0 := by decide
  unfold jefR
  rw [if_pos he]
  exact h10
theorem same_yes (v u : Value) (xs : List Int) (w : World) (h : RdE elZ w v xs) (h' : RdE elZ w u xs) : Calls Try.prog 17 #[v, u] w (BoolZ true w) :=
  (same_any v u xs xs w h h').mono fun _ _ ⟨a, b⟩ => ⟨by rw [a]; simp, b⟩
set_option maxRecDepth 100000 in
set_option maxHeartbeats 8000000 in
theorem begun_any (w : World) : Calls Try.prog 16 #[] w (BoolZ true w) := by
  have C1 : RowKit.Hid (∀ w, Calls Try.prog 10 #[.int .i64 11, .int .i64 4] w (PairZ [3, 3, 3, 2] 0 w)) := Lib.hid (fun w => by
    have := even_any 11 4 w
    rwa [show evenR 11 4 = [3, 3, 3, 2] by decide, show evenE 11 4 = 0 by decide] at this)
  have C2 : RowKit.Hid (∀ v w, RdE elZ w v [6, 3, 1, 1] → Calls Try.prog 11 #[.int .i64 10, v] w (PairZ [5, 3, 1, 1] 0 w)) := Lib.hid (fun v w h => by
    have := ham_any v 10 [6, 3, 1, 1] w h
    rwa [show hamR 10 [6, 3, 1, 1] = [5, 3, 1, 1] by decide, show allE 10 [6, 3, 1, 1] = 0 by decide] at this)
  have C3 : RowKit.Hid (∀ v w, RdE elZ w v [6, 3, 1, 1] → Calls Try.prog 12 #[.int .i64 10, v] w (PairZ [6, 3, 1, 0] 0 w)) := Lib.hid (fun v w h => by
    have := jef_any v 10 [6, 3, 1, 1] w h
    rwa [jef_begun, show allE 10 [6, 3, 1, 1] = 0 by decide] at this)
  have C4 : RowKit.Hid (∀ v w, RdE elZ w v [0, 0] → Calls Try.prog 11 #[.int .i64 10, v] w (PairZ [] 5 w)) := Lib.hid (fun v w h => by
    have := ham_any v 10 [0, 0] w h
    rwa [show hamR 10 [0, 0] = [] by decide, show allE 10 [0, 0] = 5 by decide] at this)
  have CS := Lib.hid same_yes
  go_enter Try.func16, Try.ntmps16
  go_wp2_with fail
  refine (C1.out _).mono ?_
  rintro en w1 ⟨u1, rfl, o1, b1⟩
  have R1 := Lib.hid o1.rd; have B1 := Lib.hid b1
  clear o1 b1
  go_wp2_with fail
  refine (C2.out _ _ (rd_lit elZ [6, 3, 1, 1] w1 _ _ w1.heap.size rfl (by simp [maxLen]))).mono ?_
  rintro en w2 ⟨u2, rfl, o2, b2⟩
  have K2 := Lib.hid (((br w1).alloc (Nat.le_refl _) _).trans (b2.mono (by simp))); have R2 := Lib.hid o2.rd
  clear o2 b2
  go_wp2_with fail
  refine (C3.out _ _ (rd_lit elZ [6, 3, 1, 1] w2 _ _ w2.heap.size rfl (by simp [maxLen]))).mono ?_
  rintro en w3 ⟨u3, rfl, o3, b3⟩
  have K3 := Lib.hid (((br w2).alloc (Nat.le_refl _) _).trans (b3.mono (by simp))); have R3 := Lib.hid o3.rd
  clear o3 b3
  go_wp2_with fail
  refine (C4.out _ _ (rd_lit elZ [0, 0] w3 _ _ w3.heap.size rfl (by simp [maxLen]))).mono ?_
  rintro en w4 ⟨u4, rfl, o4, b4⟩
  have K4 := Lib.hid (((br w3).alloc (Nat.le_refl _) _).trans (b4.mono (by simp)))
  clear o4 b4
  go_wp2_with fail
  have A4 := (br w4).alloc (Nat.le_refl _) (.cells #[.int .i64 3, .int .i64 3, .int .i64 3, .int .i64 2] 3)
  refine (CS.out _ _ [3, 3, 3, 2] _ (R1.out.below (bt (bt (bt K2.out K3.out) K4.out) A4)) (rd_lit elZ [3, 3, 3, 2] w4 _ _ w4.heap.size rfl (by simp [maxLen]))).mono ?_
  rintro en w5 ⟨rfl, b5⟩
  have K5 := Lib.hid (bt A4 b5)
  clear b5 A4
  go_wp2_with fail
  have A5 := (br w5).alloc (Nat.le_refl _) (.cells #[.int .i64 5, .int .i64 3, .int .i64 1, .int .i64 1] 3)
  refine (CS.out _ _ [5, 3, 1, 1] _ (R2.out.below (bt (bt (bt K3.out K4.out) K5.out) A5)) (rd_lit elZ [5, 3, 1, 1] w5 _ _ w5.heap.size rfl (by simp [maxLen]))).mono ?_
  rintro en w6 ⟨rfl, b6⟩
  have K6 := Lib.hid (bt A5 b6)
  clear b6 A5
  go_wp2_with fail
  have A6 := (br w6).alloc (Nat.le_refl _) (.cells #[.int .i64 6, .int .i64 3, .int .i64 1, .int .i64 0] 3)
  refine (CS.out _ _ [6, 3, 1, 0] _ (R3.out.below (bt (bt (bt K4.out K5.out) K6.out) A6)) (rd_lit elZ [6, 3, 1, 0] w6 _ _ w6.heap.size rfl (by simp [maxLen]))).mono ?_
  rintro en w7 ⟨rfl, b7⟩
  have K7 := Lib.hid (bt A6 b7)
  clear b7 A6
  go_wp2
  go_ret
  exact ⟨by first | rfl | (simp; done), bt (bt (bt (bt (bt (bt B1.out K2.out) K3.out) K4.out) K5.out) K6.out) K7.out⟩
set_option maxRecDepth 100000 in
set_option maxHeartbeats 8000000 in
theorem tells_walk (p m t : Int) (v : Value) (ws : List Int) (w : World) (h : RdE elZ w v ws) : Calls Try.prog 3 #[.int .i64 p, .int .i64 m, .int .i64 t, v] w (BoolZ true w) := by
  have HV := Lib.hid h
  have C1 := Lib.hid (even_any p m); have C2 := Lib.hid (fun v w h => ham_any v t ws w h); have C3 := Lib.hid (fun v w h => jef_any v t ws w h)
  have C4 := Lib.hid (parts_any p m); have C5 := Lib.hid (fun v w h => hamOf_any v t ws w h); have C6 := Lib.hid (fun v w h => jefOf_any v t ws w h)
  have CB := Lib.hid begun_any
  have S1 := Lib.hid (fun v u w h g => same_yes v u (evenR p m) w h g); have S2 := Lib.hid (fun v u w h g => same_yes v u (hamR t ws) w h g); have S3 := Lib.hid (fun v u w h g => same_yes v u (jefR t ws) w h g)
  obtain ⟨a, cap, rfl, _, _, _⟩ := h
  generalize evenR p m = X1 at *; generalize hamR t ws = X2 at *; generalize jefR t ws = X3 at *
  generalize evenE p m = E1 at *; generalize allE t ws = E2 at *
  go_enter Try.func3, Try.ntmps3
  go_wp2_with fail
  refine (C1.out _).mono ?_
  rintro en w1 ⟨u1, rfl, o1, b1⟩
  have R1 := Lib.hid o1.rd; have B1 := Lib.hid b1
  clear o1 b1
  go_wp2_with fail
  refine (C2.out _ _ (HV.out.below B1.out)).mono ?_
  rintro en w2 ⟨u2, rfl, o2, b2⟩
  have R2 := Lib.hid o2.rd; have B2 := Lib.hid b2
  clear o2 b2
  go_wp2_with fail
  refine (C3.out _ _ (HV.out.below (bt B1.out B2.out))).mono ?_
  rintro en w3 ⟨u3, rfl, o3, b3⟩
  have R3 := Lib.hid o3.rd; have B3 := Lib.hid b3
  clear o3 b3
  go_wp2_with fail
  refine (C4.out _).mono ?_
  rintro en w4 ⟨u4, rfl, o4, b4⟩
  have R4 := Lib.hid o4.rd; have B4 := Lib.hid b4
  clear o4 b4
  have HB4 := Lib.hid (bt (bt (bt B1.out B2.out) B3.out) B4.out)
  go_wp2_with fail
  refine (C5.out _ _ (HV.out.below HB4.out)).mono ?_
  rintro en w5 ⟨u5, rfl, o5, b5⟩
  have R5 := Lib.hid o5.rd; have B5 := Lib.hid b5
  clear o5 b5
  go_wp2_with fail
  refine (C6.out _ _ (HV.out.below (bt HB4.out B5.out))).mono ?_
  rintro en w6 ⟨u6, rfl, o6, b6⟩
  have R6 := Lib.hid o6.rd; have B6 := Lib.hid b6
  clear o6 b6
  go_wp2_with fail
  refine (CB.out _).mono ?_
  rintro en w7 ⟨rfl, b7⟩
  have B7 := Lib.hid b7
  clear b7
  go_wp2_with fail
  refine (S1.out _ _ _ (R1.out.below (bt (bt (bt (bt (bt B2.out B3.out) B4.out) B5.out) B6.out) B7.out)) (R4.out.below (bt (bt B5.out B6.out) B7.out))).mono ?_
  rintro en w8 ⟨rfl, b8⟩
  have B8 := Lib.hid b8
  clear b8
  go_wp2_with fail
  refine (S2.out _ _ _ (R2.out.below (bt (bt (bt (bt (bt B3.out B4.out) B5.out) B6.out) B7.out) B8.out)) (R5.out.below (bt (bt B6.out B7.out) B8.out))).mono ?_
  rintro en w9 ⟨rfl, b9⟩
  have B9 := Lib.hid b9
  clear b9
  go_wp2_with fail
  refine (S3.out _ _ _ (R3.out.below (bt (bt (bt (bt (bt B4.out B5.out) B6.out) B7.out) B8.out) B9.out)) (R6.out.below (bt (bt B7.out B8.out) B9.out))).mono ?_
  rintro en w10 ⟨rfl, b10⟩
  have B10 := Lib.hid b10
  clear b10
  go_wp2
  go_ret
  exact ⟨by first | rfl | (simp; done), bt (bt (bt (bt (bt (bt HB4.out B5.out) B6.out) B7.out) B8.out) B9.out) B10.out⟩
theorem tells_end (p m t : Int) (v : Value) (ws : List Int) (w : World) (_ : (Lit.int .i64 p).wf = true) (_ : (Lit.int .i64 m).wf = true) (_ : (Lit.int .i64 t).wf = true) (h : RdE elZ w v ws) : Calls Try.prog 3 #[.int .i64 p, .int .i64 m, .int .i64 t, v] w fun e w' => e = .returned (.bool true) ∧ Below w.heap.size w w' := tells_walk p m t v ws w h
end Sh
end Go.Proofs.Ytblbhkcnmkcdfaa
