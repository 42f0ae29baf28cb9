/- The document's window of a class. -/
import Derived.Test.YtalmjeigfhjhfaaPersonRef
import Derived.Test.YtalmjeigfhjhfaaPersonWin
set_option linter.unusedVariables false
namespace Go.Proofs.Ytalmjeigfhjhfaa
open Go.RowKit
namespace Dt
set_option maxHeartbeats 2000000 in
theorem windowR_bad (b f t p : Int) (w : World) (h : b < 1 ∨ 3652059 < b ∨ f < 0 ∨ t < f ∨ 149 < t ∨ p < 0 ∨ 100 < p) : Calls Try.prog 18 #[.int .i64 b, aC (f, t, p)] w (WinQ ((0, 0), 3) w) := by
  have hcase : isD b = false ∨ (isD b = true ∧ (f < 0 ∨ (0 ≤ f ∧ t < f) ∨ (0 ≤ f ∧ f ≤ t ∧ 149 < t) ∨ (0 ≤ f ∧ f ≤ t ∧ t ≤ 149 ∧ p < 0) ∨ (0 ≤ f ∧ f ≤ t ∧ t ≤ 149 ∧ 0 ≤ p ∧ 100 < p))) := by
    by_cases hs : isD b = true
    · obtain ⟨s1, s2⟩ := of_decide_eq_true hs
      exact .inr ⟨hs, by omega⟩
    · exact .inl (by simpa using hs)
  unfold aC
  clear h
  rcases hcase with hI | ⟨hI, h | ⟨h1, h⟩ | ⟨h1, h2, h⟩ | ⟨h1, h2, h3, h⟩ | ⟨h1, h2, h3, h4, h⟩⟩
  all_goals
    have HI := Lib.hid hI
    clear hI
    go_enter Try.func18, Try.ntmps18
    go_wp2_with fail
    refine (noDay_any b _).mono ?_
    rintro en w2 ⟨rfl, rfl⟩
    rw [HI.out]
    go_wp2
    refine bodyPost_ret (v := .tuple #[aP (0, 0), .int .i64 3]) (by simp [results, Try.results18, go_sem, aP]) rfl ⟨rfl, ?_⟩
    exact below2 _ _ _
set_option maxHeartbeats 2000000 in
theorem windowR_ok (b f t p : Int) (w : World) (s1 : 1 ≤ b) (s2 : b ≤ 3652059) (f0 : 0 ≤ f) (ft : f ≤ t) (t1 : t ≤ 149) (p0 : 0 ≤ p) (p1 : p ≤ 100) :
    Calls Try.prog 18 #[.int .i64 b, aC (f, t, p)] w (WinQ (if 3652059 < tn b (t + 1) then ((0, 0), 8) else ((tn b f, tn b (t + 1)), 0)) w) := by
  have HI := Lib.hid (isD_yes s1 s2)
  have T0 := Lib.hid (fun w => turnDay_any b f w s1 s2 f0 (by omega))
  have T1 := Lib.hid (fun w => turnDay_any b (t + 1) w s1 s2 (by omega) (by omega))
  have hb := tn_bd s1 s2 (show 0 ≤ t + 1 by omega)
  have hwk : IntKind.i64.wrap (t + 1) = t + 1 := IntWalk.i64_in _ (by omega)
  have hf2 := tn_mono (Int.le_refl b) s1 s2 f0 (show f ≤ t + 1 by omega)
  obtain ⟨Y, hY⟩ : ∃ Y, dayT b f = Y := ⟨_, rfl⟩
  obtain ⟨E, hE⟩ : ∃ E, dayT b (t + 1) = E := ⟨_, rfl⟩
  have hY2 : dayT b f = if 3652059 < tn b f then 0 else tn b f := rfl
  have hE2 : dayT b (t + 1) = if 3652059 < tn b (t + 1) then 0 else tn b (t + 1) := rfl
  have hb1 := (tn_bd s1 s2 f0).1
  rw [hY] at hY2; rw [hE] at hE2
  simp only [hY] at T0
  simp only [hE] at T1
  obtain ⟨RR, hRR⟩ : ∃ RR : (Int × Int) × Int, (if 3652059 < tn b (t + 1) then ((0, 0), 8) else ((tn b f, tn b (t + 1)), 0)) = RR := ⟨_, rfl⟩
  rw [hRR]
  have hcase : (E = 0 ∧ RR = ((0, 0), 8)) ∨ ((E == 0) = false ∧ RR = ((Y, E), 0)) := by
    by_cases g : 3652059 < tn b (t + 1)
    · rw [if_pos g] at hE2 hRR; exact .inl ⟨hE2, hRR.symm⟩
    · rw [if_neg g] at hE2 hRR
      rw [if_neg (by omega)] at hY2
      exact .inr ⟨by simp; omega, by rw [← hRR, hE2, hY2]⟩
  clear hY hE hRR hY2 hE2 hb hf2 hb1
  have HCASE := Lib.hid hcase
  clear hcase
  have B2 := box2 (w := w) (A := #[.int .i64 f, .int .i64 t, .int .i64 p]) (B := #[.int .i64 0, .int .i64 0]) (ta := 23) (tb := 29) (fa := (0, 0)) (fb := (0, 0)) (br _)
  have W2 := below2 w (.cells #[.int .i64 f, .int .i64 t, .int .i64 p] 23) (.cells #[.int .i64 0, .int .i64 0] 29)
  have S2 : ((w.alloc (.cells #[.int .i64 f, .int .i64 t, .int .i64 p] 23)).alloc (.cells #[.int .i64 0, .int .i64 0] 29)).heap.size = w.heap.size + 1 + 1 := by simp
  have hs1 : (w.alloc (.cells #[.int .i64 f, .int .i64 t, .int .i64 p] 23)).heap.size = w.heap.size + 1 := by simp
  have q0 : ((w.alloc (.cells #[.int .i64 f, .int .i64 t, .int .i64 p] 23)).alloc (.cells #[.int .i64 0, .int .i64 0] 29)).frozen? ⟨w.heap.size + 1, 0, none⟩ = false := by rw [← hs1, World.frozen?_alloc_mark]; simp
  have q1 : ((w.alloc (.cells #[.int .i64 f, .int .i64 t, .int .i64 p] 23)).alloc (.cells #[.int .i64 0, .int .i64 0] 29)).frozen? ⟨w.heap.size + 1, 1, none⟩ = false := by rw [← hs1, World.frozen?_alloc_mark]; simp
  have c0 := B2.1 0; have c1 := B2.1 1; have c2 := B2.1 2
  have r0 := B2.2 0; have r1 := B2.2 1
  simp only [List.getElem?_toArray, List.getElem?_cons_zero, List.getElem?_cons_succ] at c0 c1 c2 r0 r1
  clear B2 hs1
  have HW2 := Lib.hid W2
  have HQ0 := Lib.hid q0; have HQ1 := Lib.hid q1; have HR0 := Lib.hid r0; have HR1 := Lib.hid r1; have HS2 := Lib.hid S2
  clear q0 q1 r0 r1 S2 W2
  unfold aC
  go_enter Try.func18, Try.ntmps18
  go_wp2_with fail
  refine (noDay_any b _).mono ?_
  rintro en w2 ⟨rfl, rfl⟩
  rw [HI.out]
  go_wp2_with fail
  generalize hwr : (w.alloc (.cells #[.int .i64 f, .int .i64 t, .int .i64 p] 23)).alloc (.cells #[.int .i64 0, .int .i64 0] 29) = wr at *
  clear hwr
  have HC0 := Lib.hid c0; have HC1 := Lib.hid c1
  go_region_held3 (fun w' => w'.cell? ⟨w.heap.size, 0, none⟩ = some (.int .i64 f) ∧ w'.cell? ⟨w.heap.size, 1, none⟩ = some (.int .i64 t))
    (first | go_keep | (go_split_ands; (repeat' apply And.intro) <;> first | assumption | exact kp (hWB.out.alloc hWB.out.size _) HC0.out | exact kp (hWB.out.alloc hWB.out.size _) HC1.out | exact kp ((hWB.out.setCell hg _).setCell hg _) HC0.out | exact kp ((hWB.out.setCell hg _).setCell hg _) HC1.out | (with_reducible exact kp hbB (by assumption)) | (with_reducible exact kp hbA (by assumption))))
    (first
      | (go_at_call 40; (with_reducible refine (T0.out _).mono ?_); rintro en wA ⟨rfl, hbA⟩)
      | (go_at_call 40; (with_reducible refine (T1.out _).mono ?_); rintro en wB ⟨rfl, hbB⟩;
         first
           | (have hWB : Below wr.heap.size wr wB := bt ((bd (br wr) hbA).alloc (bd (br wr) hbA).size _) hbB; have hg : wr.heap.size ≤ wA.heap.size := (bd (br wr) hbA).size; have x0 : wB.cell? ⟨wA.heap.size, 0, none⟩ = some (.int .i64 0) := boxc (bx hbB) 0; have x1 : wB.cell? ⟨wA.heap.size, 1, none⟩ = some (.int .i64 0) := boxc (bx hbB) 1; have y0 : wB.frozen? ⟨wA.heap.size, 0, none⟩ = false := boxf (bx hbB) 0; have y1 : wB.frozen? ⟨wA.heap.size, 1, none⟩ = false := boxf (bx hbB) 1; have hWB := Lib.hid hWB)
           | (have hbZ := bd (br (wr.alloc _)) hbA; have hWB : Below wr.heap.size wr wB := bt (bt ((br wr).alloc (Nat.le_refl _) _) hbZ) hbB; have hg : wr.heap.size ≤ wr.heap.size := Nat.le_refl _; have x0 : wB.cell? ⟨wr.heap.size, 0, none⟩ = some (.int .i64 0) := kp hbB (boxc (bx hbZ) 0); have x1 : wB.cell? ⟨wr.heap.size, 1, none⟩ = some (.int .i64 0) := kp hbB (boxc (bx hbZ) 1); have y0 : wB.frozen? ⟨wr.heap.size, 0, none⟩ = false := (hbB.frozen (p := ⟨wr.heap.size, 0, none⟩) (boxs (bx hbZ))).trans (boxf (bx hbZ) 0); have y1 : wB.frozen? ⟨wr.heap.size, 1, none⟩ = false := (hbB.frozen (p := ⟨wr.heap.size, 1, none⟩) (boxs (bx hbZ))).trans (boxf (bx hbZ) 1); have hWB := Lib.hid hWB)
           | (have hWB : Below wr.heap.size wr wB := bt (bd (br wr) hbA) hbB; have hWB := Lib.hid hWB)))
  all_goals
    first
      | (have x0 : wB.cell? ⟨wA.heap.size, 0, none⟩ = some (.int .i64 0) := x0; have SB := Lib.hid (Sb.put hWB.out hg x0 x1 Y E); generalize (wB.setCell ⟨wA.heap.size, 0, none⟩ (.int .i64 Y)).setCell ⟨wA.heap.size, 1, none⟩ (.int .i64 E) = wx at *; clear hg x0 x1 y0 y1 hbA hbB hWB; generalize wA.heap.size = gq at *)
      | (have SB := Lib.hid (Sb.put hWB.out hg x0 x1 Y E); generalize (wB.setCell ⟨wr.heap.size, 0, none⟩ (.int .i64 Y)).setCell ⟨wr.heap.size, 1, none⟩ (.int .i64 E) = wx at *; clear hg x0 x1 y0 y1 hbA hbB hbZ hWB; obtain ⟨gq, hgq⟩ : ∃ gq, wr.heap.size = gq := ⟨_, rfl⟩; rw [hgq] at SB; have hgq := Lib.hid hgq; simp only [hgq.out])
      | (have SB := Lib.hid (Sb.new hWB.out Y E 29); generalize wB.alloc (.cells #[.int .i64 Y, .int .i64 E] 29) = wx at *; clear hbA hbB hWB; generalize wB.heap.size = gq at *)
  all_goals
    have s0 := SB.out.c0; have s1' := SB.out.c1
    have HBX := Lib.hid (HW2.out.trans (SB.out.below.mono HW2.out.size))
    have hrl : w.heap.size + 1 < wr.heap.size := by rw [HS2.out]; omega
    have t0 := kp SB.out.below HR0.out
    have t1 := kp SB.out.below HR1.out
    have v0 := (SB.out.below.frozen (p := ⟨w.heap.size + 1, 0, none⟩) hrl).trans HQ0.out
    have v1 := (SB.out.below.frozen (p := ⟨w.heap.size + 1, 1, none⟩) hrl).trans HQ1.out
    clear hrl
    rcases HCASE.out with ⟨rfl, rfl⟩ | ⟨hne, rfl⟩
    · have RB := Lib.hid (Sb.put HBX.out (Nat.le_succ _) t0 t1 0 0)
      go_wp2
      have rb := RB.out
      generalize (wx.setCell ⟨w.heap.size + 1, 0, none⟩ (.int .i64 0)).setCell ⟨w.heap.size + 1, 1, none⟩ (.int .i64 0) = wf at *
      have z0 := rb.c0; have z1 := rb.c1
      refine bodyPost_ret (v := .tuple #[aP (0, 0), .int .i64 8]) (by simp [results, Try.results18, go_sem, aP, z0, z1]) rfl ⟨rfl, rb.below⟩
    · have RB := Lib.hid (Sb.put HBX.out (Nat.le_succ _) t0 t1 Y E)
      go_wp2
      have rb := RB.out
      generalize (wx.setCell ⟨w.heap.size + 1, 0, none⟩ (.int .i64 Y)).setCell ⟨w.heap.size + 1, 1, none⟩ (.int .i64 E) = wf at *
      have z0 := rb.c0; have z1 := rb.c1
      refine bodyPost_ret (v := .tuple #[aP (Y, E), .int .i64 0]) (by simp [results, Try.results18, go_sem, aP, z0, z1]) rfl ⟨rfl, rb.below⟩
theorem windowR_any (b : Int) (c : Cl) (w : World) : Calls Try.prog 18 #[.int .i64 b, aC c] w (WinQ (winF b c) w) := by
  obtain ⟨f, t, p⟩ := c
  by_cases h : b < 1 ∨ 3652059 < b ∨ f < 0 ∨ t < f ∨ 149 < t ∨ p < 0 ∨ 100 < p
  · have e : winF b (f, t, p) = ((0, 0), 3) := by unfold winF; rw [if_pos h]
    rw [e]; exact windowR_bad b f t p w h
  · have e : winF b (f, t, p) = if 3652059 < tn b (t + 1) then ((0, 0), 8) else ((tn b f, tn b (t + 1)), 0) := by unfold winF; rw [if_neg h]
    rw [e]; exact windowR_ok b f t p w (by omega) (by omega) (by omega) (by omega) (by omega) (by omega) (by omega)
end Dt
end Go.Proofs.Ytalmjeigfhjhfaa
