/- Jefferson's way: bidders, how they are held against each other, exchanged. -/
import Derived.Test.YtblbhkcnmkcdfaaJeffPlain
import Derived.Test.YtblbhkcnmkcdfaaShareH
import Derived.Test.YtblbhkcnmkcdfaaMeth
import Derived.BigRegion
import Derived.Deep.RegionHeld3
set_option linter.unusedSimpArgs false
set_option linter.unusedVariables false
namespace Go.Proofs.Ytblbhkcnmkcdfaa
open Go.RowKit
namespace Sh
open Stb
abbrev Bd := Int × Int × Int
def eB (x : Bd) : List Value := [.int .i64 x.1, .int .i64 x.2.1, .int .i64 x.2.2]
@[reducible] def elB : El Bd where
  k := 3
  enc := eB
  te := 44
  ts := 41
  bytes := 24
  zero := .agg #[.int .i64 0, .int .i64 0, .int .i64 0]
  k0 := by decide
  zs := rfl
  len := fun _ => rfl
  one := fun x y h => by simp [eB] at h; rcases h with rfl | rfl | rfl <;> rfl
  info := by kernel_rfl
  und := Try.underlying41
def orI (a b : Int) : Int := if a = 0 then b else a
theorem or_any (a b : Int) (g : Nat) (w : World) (h0 : w.cell? ⟨g, 0, none⟩ = some (.int .i64 a)) (h1 : w.cell? ⟨g, 1, none⟩ = some (.int .i64 b)) : Calls Try.prog 55 #[.slice (some ⟨g, 0, none⟩) 2 2] w fun e w' => e = .returned (.int .i64 (orI a b)) ∧ w = w' := by
  unfold orI
  by_cases ca : a = 0
  · subst ca
    rw [if_pos rfl]
    by_cases cb : b = 0
    · subst cb
      go_enter Try.func55, Try.ntmps55
      go_wp2
      refine wp_loop_rounds 3 ?_
      rw [rounds_succ]
      go_wp2
      rw [rounds_succ]
      go_wp2
      rw [rounds_succ]
      go_wp2
      go_ret
      exact ⟨rfl, by first | rfl | trivial⟩
    · have hb : (b != 0) = true := by simp [cb]
      go_enter Try.func55, Try.ntmps55
      go_wp2
      refine wp_loop_rounds 3 ?_
      rw [rounds_succ]
      go_wp2
      rw [rounds_succ]
      go_wp2
      go_ret
      exact ⟨rfl, by first | rfl | trivial⟩
  · rw [if_neg ca]
    have ha : (a != 0) = true := by simp [ca]
    go_enter Try.func55, Try.ntmps55
    go_wp2
    refine wp_loop_rounds 3 ?_
    rw [rounds_succ]
    go_wp2
    go_ret
    exact ⟨rfl, by first | rfl | trivial⟩
theorem len_any (a : Option Addr) (n c : Nat) (w : World) : Calls Try.prog 51 #[.slice a n c] w fun e w' => e = .returned (.int .i64 n) ∧ w = w' := by
  go_enter Try.func51, Try.ntmps51
  go_wp2
  go_ret
  exact ⟨by first | rfl | (simp; done), by first | rfl | trivial⟩
/-- x before y, of bidders -/
def lessB (x y : Bd) : Bool := decide (orI (cmpI (y.2.1 * (x.2.2 + 1)) (x.2.1 * (y.2.2 + 1))) (cmpI x.1 y.1) < 0)
theorem lessB_is (x y : Bd) : lessB x y = decide (y.2.1 * (x.2.2 + 1) < x.2.1 * (y.2.2 + 1) ∨ (y.2.1 * (x.2.2 + 1) = x.2.1 * (y.2.2 + 1) ∧ x.1 < y.1)) := by
  unfold lessB orI cmpI
  apply decide_eq_decide.2
  generalize y.2.1 * (x.2.2 + 1) = P
  generalize x.2.1 * (y.2.2 + 1) = Q
  repeat' split
  all_goals omega
abbrev BoolZ (b : Bool) (w : World) (e : Ending) (w' : World) : Prop := e = .returned (.bool b) ∧ Below w.heap.size w w'
set_option maxRecDepth 100000 in
set_option maxHeartbeats 8000000 in
theorem less_any (g n c : Nat) (i j : Nat) (x y : Bd) (w : World) (hi : i < n) (hj : j < n) (hn : n ≤ 1000)
    (hx : w.cell? ⟨g, i * 3, none⟩ = some (.int .i64 x.1) ∧ w.cell? ⟨g, i * 3 + 1, none⟩ = some (.int .i64 x.2.1) ∧ w.cell? ⟨g, i * 3 + 2, none⟩ = some (.int .i64 x.2.2))
    (hy : w.cell? ⟨g, j * 3, none⟩ = some (.int .i64 y.1) ∧ w.cell? ⟨g, j * 3 + 1, none⟩ = some (.int .i64 y.2.1) ∧ w.cell? ⟨g, j * 3 + 2, none⟩ = some (.int .i64 y.2.2))
    (bx : 0 ≤ x.2.1 ∧ x.2.1 ≤ 100000 ∧ 0 ≤ x.2.2 ∧ x.2.2 ≤ 100000) (by_ : 0 ≤ y.2.1 ∧ y.2.1 ≤ 100000 ∧ 0 ≤ y.2.2 ∧ y.2.2 ≤ 100000) :
    Calls Try.prog 52 #[.slice (some ⟨g, 0, none⟩) n c, .int .i64 i, .int .i64 j] w (BoolZ (lessB x y) w) := by
  obtain ⟨xa, xw, xh⟩ := x
  obtain ⟨ya, yw, yh⟩ := y
  simp only at hx hy bx by_
  obtain ⟨x0, x1, x2⟩ := hx
  obtain ⟨y0, y1, y2⟩ := hy
  obtain ⟨g0, g1, g2, g3⟩ := bx
  obtain ⟨k0, k1, k2, k3⟩ := by_
  unfold lessB
  simp only
  obtain ⟨P, hP⟩ : ∃ P, yw * (xh + 1) = P := ⟨_, rfl⟩
  obtain ⟨Q, hQ⟩ : ∃ Q, xw * (yh + 1) = Q := ⟨_, rfl⟩
  have hPb : 0 ≤ P ∧ P ≤ 10000100000 := by
    rw [← hP]
    refine ⟨Int.mul_nonneg k0 (by omega), ?_⟩
    have h1 : yw * (xh + 1) ≤ 100000 * (xh + 1) := Int.mul_le_mul_of_nonneg_right k1 (by omega)
    omega
  have hQb : 0 ≤ Q ∧ Q ≤ 10000100000 := by
    rw [← hQ]
    refine ⟨Int.mul_nonneg g0 (by omega), ?_⟩
    have h1 : xw * (yh + 1) ≤ 100000 * (yh + 1) := Int.mul_le_mul_of_nonneg_right g1 (by omega)
    omega
  have wx : IntKind.i64.wrap (xh + 1) = xh + 1 := IntWalk.i64_in _ (by omega)
  have wy : IntKind.i64.wrap (yh + 1) = yh + 1 := IntWalk.i64_in _ (by omega)
  have wp : IntKind.i64.wrap (yw * (xh + 1)) = P := by rw [hP]; exact IntWalk.i64_in _ (by omega)
  have wq : IntKind.i64.wrap (xw * (yh + 1)) = Q := by rw [hQ]; exact IntWalk.i64_in _ (by omega)
  rw [hP, hQ]
  have CI := Lib.hid cmp_any
  have CO := Lib.hid or_any
  obtain ⟨r, hr⟩ : ∃ r, decide (orI (cmpI P Q) (cmpI xa ya) < 0) = r := ⟨_, rfl⟩
  obtain ⟨ca, hca⟩ : ∃ ca, cmpI P Q = ca := ⟨_, rfl⟩
  obtain ⟨cb, hcb⟩ : ∃ cb, cmpI xa ya = cb := ⟨_, rfl⟩
  obtain ⟨o, ho⟩ : ∃ o, orI ca cb = o := ⟨_, rfl⟩
  have HR : RowKit.Hid (decide (o < 0) = r) := Lib.hid (by rw [← ho, ← hca, ← hcb]; exact hr)
  have HP := Lib.hid (fun W => cmp_any P Q W); have HQ := Lib.hid (fun W => cmp_any xa ya W)
  rw [hca] at HP; rw [hcb] at HQ
  have HO := Lib.hid (fun g W h0 h1 => or_any ca cb g W h0 h1)
  rw [ho] at HO
  rw [hr]
  clear hP hQ hr hca hcb ho
  have i1 : (i : Int) < (n : Int) := by omega
  have i0 : (0 : Int) ≤ (i : Int) := by omega
  have j1 : (j : Int) < (n : Int) := by omega
  have j0 : (0 : Int) ≤ (j : Int) := by omega
  have hgl : g < w.heap.size := World.block_lt_of_cell? w _ x0
  go_enter Try.func52, Try.ntmps52
  go_wp2_with fail
  go_region
  · go_wp2_with fail
    obtain ⟨W, hW⟩ : ∃ W, W = ((w.alloc (.cells #[.int .i64 xa, .int .i64 xw, .int .i64 xh] 44)).alloc (.cells #[.int .i64 ya, .int .i64 yw, .int .i64 yh] 44)).drew := ⟨_, rfl⟩
    rw [← hW]
    have hbW : Below w.heap.size w W := by rw [hW]; exact (((br w).alloc (Nat.le_refl _) _).alloc (by simp) _).drew
    have B1 := ((Box.new w 44 [.int .i64 xa, .int .i64 xw, .int .i64 xh]).alloc (.cells #[.int .i64 ya, .int .i64 yw, .int .i64 yh] 44)).dr 1
    have B2 := (Box.new (w.alloc (.cells #[.int .i64 xa, .int .i64 xw, .int .i64 xh] 44)) 44 [.int .i64 ya, .int .i64 yw, .int .i64 yh]).dr 1
    rw [World.size_alloc] at B2
    have xb0 : W.drew.cell? ⟨w.heap.size, 0, none⟩ = some (.int .i64 xa) := by rw [hW]; exact B1.cell 0
    have xb1 : W.drew.cell? ⟨w.heap.size, 1, none⟩ = some (.int .i64 xw) := by rw [hW]; exact B1.cell 1
    have xb2 : W.drew.cell? ⟨w.heap.size, 2, none⟩ = some (.int .i64 xh) := by rw [hW]; exact B1.cell 2
    have yb0 : W.drew.cell? ⟨w.heap.size + 1, 0, none⟩ = some (.int .i64 ya) := by rw [hW]; exact B2.cell 0
    have yb1 : W.drew.cell? ⟨w.heap.size + 1, 1, none⟩ = some (.int .i64 yw) := by rw [hW]; exact B2.cell 1
    have yb2 : W.drew.cell? ⟨w.heap.size + 1, 2, none⟩ = some (.int .i64 yh) := by rw [hW]; exact B2.cell 2
    have HBW := Lib.hid hbW
    clear hW hbW B1 B2 x0 x1 x2 y0 y1 y2
    have BN := Box.new W.drew 3 [.int .i64 ca, .int .i64 cb]
    have HN0 : RowKit.Hid ((W.drew.alloc (.cells #[.int .i64 ca, .int .i64 cb] 3)).cell? ⟨W.drew.heap.size, 0, none⟩ = some (.int .i64 ca)) := Lib.hid (BN.cell 0)
    have HN1 : RowKit.Hid ((W.drew.alloc (.cells #[.int .i64 ca, .int .i64 cb] 3)).cell? ⟨W.drew.heap.size, 1, none⟩ = some (.int .i64 cb)) := Lib.hid (BN.cell 1)
    have HAL := Lib.hid ((br W.drew).alloc (Nat.le_refl _) (.cells #[.int .i64 ca, .int .i64 cb] 3))
    clear BN
    go_region_held3 (fun w' => w'.cell? ⟨w.heap.size, 0, none⟩ = some (.int .i64 xa) ∧ w'.cell? ⟨w.heap.size, 1, none⟩ = some (.int .i64 xw) ∧ w'.cell? ⟨w.heap.size, 2, none⟩ = some (.int .i64 xh) ∧ w'.cell? ⟨w.heap.size + 1, 0, none⟩ = some (.int .i64 ya) ∧ w'.cell? ⟨w.heap.size + 1, 1, none⟩ = some (.int .i64 yw) ∧ w'.cell? ⟨w.heap.size + 1, 2, none⟩ = some (.int .i64 yh))
      (first | exact ⟨xb0, xb1, xb2, yb0, yb1, yb2⟩ | exact ⟨kp HAL.out xb0, kp HAL.out xb1, kp HAL.out xb2, kp HAL.out yb0, kp HAL.out yb1, kp HAL.out yb2⟩ | go_keep | fail)
      (first
        | (go_at_call 23; (with_reducible refine (HP.out _).mono ?_); rintro en wq ⟨rfl, rfl⟩)
        | (go_at_call 23; (with_reducible refine (HQ.out _).mono ?_); rintro en wq ⟨rfl, rfl⟩)
        | (go_at_call 55; (refine (HO.out _ _ HN0.out HN1.out).mono ?_); rintro en wq ⟨rfl, rfl⟩)
        | fail)
    all_goals
      go_wp2
      go_ret
      exact ⟨by rw [HR.out]; rfl, HBW.out.drew.trans (HAL.out.mono HBW.out.drew.size)⟩
  · go_wp2_with fail
    obtain ⟨W, hW⟩ : ∃ W, W = ((w.alloc (.cells #[.int .i64 ya, .int .i64 yw, .int .i64 yh] 44)).alloc (.cells #[.int .i64 xa, .int .i64 xw, .int .i64 xh] 44)).drew := ⟨_, rfl⟩
    rw [← hW]
    have hbW : Below w.heap.size w W := by rw [hW]; exact (((br w).alloc (Nat.le_refl _) _).alloc (by simp) _).drew
    have B1 := ((Box.new w 44 [.int .i64 ya, .int .i64 yw, .int .i64 yh]).alloc (.cells #[.int .i64 xa, .int .i64 xw, .int .i64 xh] 44)).dr 1
    have B2 := (Box.new (w.alloc (.cells #[.int .i64 ya, .int .i64 yw, .int .i64 yh] 44)) 44 [.int .i64 xa, .int .i64 xw, .int .i64 xh]).dr 1
    rw [World.size_alloc] at B2
    have yb0 : W.drew.cell? ⟨w.heap.size, 0, none⟩ = some (.int .i64 ya) := by rw [hW]; exact B1.cell 0
    have yb1 : W.drew.cell? ⟨w.heap.size, 1, none⟩ = some (.int .i64 yw) := by rw [hW]; exact B1.cell 1
    have yb2 : W.drew.cell? ⟨w.heap.size, 2, none⟩ = some (.int .i64 yh) := by rw [hW]; exact B1.cell 2
    have xb0 : W.drew.cell? ⟨w.heap.size + 1, 0, none⟩ = some (.int .i64 xa) := by rw [hW]; exact B2.cell 0
    have xb1 : W.drew.cell? ⟨w.heap.size + 1, 1, none⟩ = some (.int .i64 xw) := by rw [hW]; exact B2.cell 1
    have xb2 : W.drew.cell? ⟨w.heap.size + 1, 2, none⟩ = some (.int .i64 xh) := by rw [hW]; exact B2.cell 2
    have HBW := Lib.hid hbW
    clear hW hbW B1 B2 x0 x1 x2 y0 y1 y2
    have BN := Box.new W.drew 3 [.int .i64 ca, .int .i64 cb]
    have HN0 : RowKit.Hid ((W.drew.alloc (.cells #[.int .i64 ca, .int .i64 cb] 3)).cell? ⟨W.drew.heap.size, 0, none⟩ = some (.int .i64 ca)) := Lib.hid (BN.cell 0)
    have HN1 : RowKit.Hid ((W.drew.alloc (.cells #[.int .i64 ca, .int .i64 cb] 3)).cell? ⟨W.drew.heap.size, 1, none⟩ = some (.int .i64 cb)) := Lib.hid (BN.cell 1)
    have HAL := Lib.hid ((br W.drew).alloc (Nat.le_refl _) (.cells #[.int .i64 ca, .int .i64 cb] 3))
    clear BN
    go_region_held3 (fun w' => w'.cell? ⟨w.heap.size + 1, 0, none⟩ = some (.int .i64 xa) ∧ w'.cell? ⟨w.heap.size + 1, 1, none⟩ = some (.int .i64 xw) ∧ w'.cell? ⟨w.heap.size + 1, 2, none⟩ = some (.int .i64 xh) ∧ w'.cell? ⟨w.heap.size, 0, none⟩ = some (.int .i64 ya) ∧ w'.cell? ⟨w.heap.size, 1, none⟩ = some (.int .i64 yw) ∧ w'.cell? ⟨w.heap.size, 2, none⟩ = some (.int .i64 yh))
      (first | exact ⟨xb0, xb1, xb2, yb0, yb1, yb2⟩ | exact ⟨kp HAL.out xb0, kp HAL.out xb1, kp HAL.out xb2, kp HAL.out yb0, kp HAL.out yb1, kp HAL.out yb2⟩ | go_keep | fail)
      (first
        | (go_at_call 23; (with_reducible refine (HP.out _).mono ?_); rintro en wq ⟨rfl, rfl⟩)
        | (go_at_call 23; (with_reducible refine (HQ.out _).mono ?_); rintro en wq ⟨rfl, rfl⟩)
        | (go_at_call 55; (refine (HO.out _ _ HN0.out HN1.out).mono ?_); rintro en wq ⟨rfl, rfl⟩)
        | fail)
    all_goals
      go_wp2
      go_ret
      exact ⟨by rw [HR.out]; rfl, HBW.out.drew.trans (HAL.out.mono HBW.out.drew.size)⟩
theorem flat_set3 (xs : List Bd) : ∀ (i : Nat) (y : Bd), i < xs.length → (((xs.flatMap eB).set (i * 3) (.int .i64 y.1)).set (i * 3 + 1) (.int .i64 y.2.1)).set (i * 3 + 2) (.int .i64 y.2.2) = (xs.set i y).flatMap eB := by
  induction xs with
  | nil => intro i y h; simp at h
  | cons x xs ih =>
    intro i y h
    match i with
    | 0 => simp [eB]
    | i + 1 =>
      have := ih i y (by simpa using h)
      rw [show (i + 1) * 3 = i * 3 + 3 by omega]
      simp only [List.flatMap_cons, List.set_cons_succ]
      rw [← this]
      simp [eB, List.set_append_right]
theorem own_set3 {w : World} {base g n c : Nat} {xs : List Bd} (h : ROwn elB w base (.slice (some ⟨g, 0, none⟩) n c) xs) (i : Nat) (hi : i < xs.length) (y : Bd) :
    ROwn elB (((w.setCell ⟨g, i * 3, none⟩ (.int .i64 y.1)).setCell ⟨g, i * 3 + 1, none⟩ (.int .i64 y.2.1)).setCell ⟨g, i * 3 + 2, none⟩ (.int .i64 y.2.2)) base (.slice (some ⟨g, 0, none⟩) n c) (xs.set i y) := by
  obtain ⟨_, _, e⟩ := own_shapeZ h
  injection e with _ e2
  subst e2
  have h1 := ((((World.ownsRow.stored h (i * 3) (.int .i64 y.1)).1.stored (i * 3 + 1) (.int .i64 y.2.1)).1).stored (i * 3 + 2) (.int .i64 y.2.2)).1
  have e3 := flat_set3 xs i y hi
  unfold ROwn
  rw [List.length_set]
  show World.ownsRow _ _ _ _ _ _ ((xs.set i y).flatMap eB)
  rw [← e3]
  exact h1
theorem eB_at {w : World} {base g n c : Nat} {xs : List Bd} (h : ROwn elB w base (.slice (some ⟨g, 0, none⟩) n c) xs) (i : Nat) (hi : i < xs.length) :
    w.cell? ⟨g, i * 3, none⟩ = some (.int .i64 xs[i].1) ∧ w.cell? ⟨g, i * 3 + 1, none⟩ = some (.int .i64 xs[i].2.1) ∧ w.cell? ⟨g, i * 3 + 2, none⟩ = some (.int .i64 xs[i].2.2) := by
  obtain ⟨a, cap, e, h1, h2, h3⟩ := h.rd
  injection e with e1 e2
  subst e1
  obtain ⟨b, off, e, hb, hc⟩ := h3 (by omega)
  injection e with e
  injection e with e1 e2
  subst e1 e2
  have q0 := hc i hi 0 _ rfl
  have q1 := hc i hi 1 _ rfl
  have q2 := hc i hi 2 _ rfl
  simp only [Nat.zero_add, Nat.add_zero] at q0 q1 q2
  exact ⟨q0, q1, q2⟩
theorem fB_at {w : World} {base g n c : Nat} {xs : List Bd} (h : ROwn elB w base (.slice (some ⟨g, 0, none⟩) n c) xs) (j : Nat) : w.frozen? ⟨g, j, none⟩ = false := by
  obtain ⟨_, _, e⟩ := own_shapeZ h
  injection e with _ e2
  subst e2
  exact World.ownsRow.frozenAt h j
set_option maxRecDepth 100000 in
set_option maxHeartbeats 4000000 in
theorem swap_any (base g n c : Nat) (xs : List Bd) (i j : Nat) (w : World) (h : ROwn elB w base (.slice (some ⟨g, 0, none⟩) n c) xs) (hl : xs.length = n) (hi : i < n) (hj : j < n) (hij : i ≠ j) (hn : n ≤ 1000) :
    Calls Try.prog 54 #[.slice (some ⟨g, 0, none⟩) n c, .int .i64 i, .int .i64 j] w fun e w' => e = .returned (.tuple #[]) ∧ ROwn elB w' base (.slice (some ⟨g, 0, none⟩) n c) ((xs.set i (xs[j]'(by omega))).set j (xs[i]'(by omega))) ∧ KeptB [g] w w' := by
  have hx := eB_at h i (by omega)
  have hy := eB_at h j (by omega)
  have HF := Lib.hid (fun k => fB_at h k)
  have f0 := HF.out (i * 3); have f1 := HF.out (i * 3 + 1); have f2 := HF.out (i * 3 + 2)
  have f3 := HF.out (j * 3); have f4 := HF.out (j * 3 + 1); have f5 := HF.out (j * 3 + 2)
  have HE := Lib.hid (own_set3 (own_set3 h i (by omega) (xs[j]'(by omega))) j (by simp; omega) (xs[i]'(by omega)))
  clear h HF
  generalize xs[i]'(by omega) = x at *
  generalize xs[j]'(by omega) = y at *
  obtain ⟨xa, xw, xh⟩ := x
  obtain ⟨ya, yw, yh⟩ := y
  simp only at hx hy HE
  obtain ⟨x0, x1, x2⟩ := hx
  obtain ⟨y0, y1, y2⟩ := hy
  have HK : RowKit.Hid (KeptB [g] w ((((((w.setCell ⟨g, i * 3, none⟩ (.int .i64 ya)).setCell ⟨g, i * 3 + 1, none⟩ (.int .i64 yw)).setCell ⟨g, i * 3 + 2, none⟩ (.int .i64 yh)).setCell ⟨g, j * 3, none⟩ (.int .i64 xa)).setCell ⟨g, j * 3 + 1, none⟩ (.int .i64 xw)).setCell ⟨g, j * 3 + 2, none⟩ (.int .i64 xh))) := Lib.hid (((((((KeptB.refl [g] w).set _ _ _ (.inl (by simp))).set _ _ _ (.inl (by simp))).set _ _ _ (.inl (by simp))).set _ _ _ (.inl (by simp))).set _ _ _ (.inl (by simp))).set _ _ _ (.inl (by simp)))
  have i1 : (i : Int) < (n : Int) := by omega
  have i0 : (0 : Int) ≤ (i : Int) := by omega
  have j1 : (j : Int) < (n : Int) := by omega
  have j0 : (0 : Int) ≤ (j : Int) := by omega
  have n1 : i * 3 ≠ j * 3 := by omega
  go_enter Try.func54, Try.ntmps54
  go_wp2_with fail
  go_region
  go_wp2
  go_end0
  exact ⟨rfl, HE.out.next (bn (br _) 1), HK.out.drewN 1⟩
end Sh
end Go.Proofs.Ytblbhkcnmkcdfaa
