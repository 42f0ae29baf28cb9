/- The document's start of a key. -/
import Derived.Test.YtmeoeihfgmmgmaaTagRef2
set_option linter.unusedVariables false
namespace Go.Proofs.Ytmeoeihfgmmgmaa
open Go.RowKit
namespace Tg
set_option maxHeartbeats 1000000 in
theorem startOf_any (a b : W64) (w : World) : Calls Try.prog 37 #[aK a b] w fun e w' => e = .returned (aS (start a b)) ∧ Below w.heap.size w w' := by
  obtain ⟨p0, h0⟩ : ∃ x, a ^^^ 8317987319222330741 = x := ⟨_, rfl⟩
  obtain ⟨p1, h1⟩ : ∃ x, b ^^^ 7237128888997146477 = x := ⟨_, rfl⟩
  obtain ⟨p2, h2⟩ : ∃ x, a ^^^ 7816392313619706465 = x := ⟨_, rfl⟩
  obtain ⟨p3, h3⟩ : ∃ x, b ^^^ 8387220255154660723 = x := ⟨_, rfl⟩
  have hr : start a b = ⟨p0, p1, p2, p3⟩ := by rw [← h0, ← h1, ← h2, ← h3]; rfl
  rw [hr]
  have H0 := Lib.hid h0; have H1 := Lib.hid h1; have H2 := Lib.hid h2; have H3 := Lib.hid h3
  clear h0 h1 h2 h3 hr
  have hs : ∀ t, (w.alloc (.cells #[.int .u64 (wi a), .int .u64 (wi b)] t)).heap.size = w.heap.size + 1 := fun t => by simp
  have R : ∀ t t2, S4 w.heap.size w ((w.alloc (.cells #[.int .u64 (wi a), .int .u64 (wi b)] t)).alloc (.cells #[.int .u64 0, .int .u64 0, .int .u64 0, .int .u64 0] t2)) (w.heap.size + 1) ⟨0, 0, 0, 0⟩ := fun t t2 => by
    refine ⟨((br w).alloc (Nat.le_refl _) _).alloc (by simp) _, by omega, by simp, ?_, ?_, ?_, ?_, fun j => ?_⟩
    · rw [← hs t, World.cell?_alloc_mark]; rfl
    · rw [← hs t, World.cell?_alloc_mark]; rfl
    · rw [← hs t, World.cell?_alloc_mark]; rfl
    · rw [← hs t, World.cell?_alloc_mark]; rfl
    · rw [← hs t, World.frozen?_alloc_mark]; simp
  have G : ∀ t t2, ((w.alloc (.cells #[.int .u64 (wi a), .int .u64 (wi b)] t)).alloc (.cells #[.int .u64 0, .int .u64 0, .int .u64 0, .int .u64 0] t2)).cell? ⟨w.heap.size, 0, none⟩ = some (.int .u64 (wi a)) ∧ ((w.alloc (.cells #[.int .u64 (wi a), .int .u64 (wi b)] t)).alloc (.cells #[.int .u64 0, .int .u64 0, .int .u64 0, .int .u64 0] t2)).cell? ⟨w.heap.size, 1, none⟩ = some (.int .u64 (wi b)) := fun t t2 => by
    have hb := (br (w.alloc (.cells #[.int .u64 (wi a), .int .u64 (wi b)] t))).alloc (Nat.le_refl _) (.cells #[.int .u64 0, .int .u64 0, .int .u64 0, .int .u64 0] t2)
    constructor
    · rw [hb.cell (p := ⟨w.heap.size, 0, none⟩) (by simp), World.cell?_alloc_mark]; rfl
    · rw [hb.cell (p := ⟨w.heap.size, 1, none⟩) (by simp), World.cell?_alloc_mark]; rfl
  replace R := R 25 59
  obtain ⟨g0, g1⟩ := G 25 59
  clear G hs
  have hlt : w.heap.size ≠ w.heap.size + 1 := by omega
  unfold aK aS
  go_enter Try.func37, Try.ntmps37
  go_wp2_with fail
  generalize ((w.alloc (.cells #[.int .u64 (wi a), .int .u64 (wi b)] 25)).alloc (.cells #[.int .u64 0, .int .u64 0, .int .u64 0, .int .u64 0] 59)) = wA at *
  have hRB := R.below
  have x0 := R.c0; have x1 := R.c1; have x2 := R.c2; have x3 := R.c3
  have y0 := R.fr 0; have y1 := R.fr 1; have y2 := R.fr 2; have y3 := R.fr 3
  simp only at x0 x1 x2 x3
  have z : wi 0 = 0 := rfl
  rw [z] at x0 x1 x2 x3
  have hRl := R.lt
  have HR := Lib.hid R
  have hgA : w.heap.size ≤ wA.heap.size := R.below.size
  clear R z
  have X0 := Lib.hid (show ∀ w, Calls Try.prog 42 #[.int .u64 (wi a), .int .u64 8317987319222330741] w fun e w' => e = .returned (.int .u64 (wi p0)) ∧ Below w.heap.size w w' from fun w => by have h := xored_any a 8317987319222330741 w; rw [H0.out] at h; exact h)
  have X1 := Lib.hid (show ∀ w, Calls Try.prog 42 #[.int .u64 (wi b), .int .u64 7237128888997146477] w fun e w' => e = .returned (.int .u64 (wi p1)) ∧ Below w.heap.size w w' from fun w => by have h := xored_any b 7237128888997146477 w; rw [H1.out] at h; exact h)
  have X2 := Lib.hid (show ∀ w, Calls Try.prog 42 #[.int .u64 (wi a), .int .u64 7816392313619706465] w fun e w' => e = .returned (.int .u64 (wi p2)) ∧ Below w.heap.size w w' from fun w => by have h := xored_any a 7816392313619706465 w; rw [H2.out] at h; exact h)
  have X3 := Lib.hid (show ∀ w, Calls Try.prog 42 #[.int .u64 (wi b), .int .u64 8387220255154660723] w fun e w' => e = .returned (.int .u64 (wi p3)) ∧ Below w.heap.size w w' from fun w => by have h := xored_any b 8387220255154660723 w; rw [H3.out] at h; exact h)
  clear H0 H1 H2 H3
  have hne : ∀ k j : Nat, (⟨w.heap.size + 1, k, none⟩ : Addr) ≠ ⟨w.heap.size, j, none⟩ := fun k j e => by injection e; omega
  generalize hgs : w.heap.size = g at *
  generalize g + 1 = r at *
  go_region_held3 (fun w' => w'.cell? ⟨g, 0, none⟩ = some (.int .u64 (wi a)) ∧ w'.cell? ⟨g, 1, none⟩ = some (.int .u64 (wi b)))
    (first | (go_split_ands; apply And.intro <;> (rw [World.cell?_setCell_other _ _ _ _ (hne 3 _), World.cell?_setCell_other _ _ _ _ (hne 2 _), World.cell?_setCell_other _ _ _ _ (hne 1 _), World.cell?_setCell_other _ _ _ _ (hne 0 _)]; assumption)) | go_keep | (go_split_ands; (repeat' apply And.intro) <;> first | assumption | (with_reducible exact kp hb4 (by assumption)) | (with_reducible exact kp hb3 (by assumption)) | (with_reducible exact kp hb2 (by assumption)) | (with_reducible exact kp hb1 (by assumption))))
    (first
      | (go_at_call 42; (with_reducible refine (X0.out _).mono ?_); rintro en w1 ⟨rfl, hb1⟩)
      | (go_at_call 42; (with_reducible refine (X1.out _).mono ?_); rintro en w2 ⟨rfl, hb2⟩)
      | (go_at_call 42; (with_reducible refine (X2.out _).mono ?_); rintro en w3 ⟨rfl, hb3⟩)
      | (go_at_call 42; (with_reducible refine (X3.out _).mono ?_); rintro en w4 ⟨rfl, hb4⟩; have HB4 := bt (bt (bt (bd (br wA) hb1) hb2) hb3) hb4; have RR := Lib.hid ((HR.out.next HB4 hgA).put ⟨p0, p1, p2, p3⟩); have x0 := kp HB4 x0; have x1 := kp HB4 x1; have x2 := kp HB4 x2; have x3 := kp HB4 x3; have y0 := (HB4.frozen (p := ⟨r, 0, none⟩) hRl).trans y0; have y1 := (HB4.frozen (p := ⟨r, 1, none⟩) hRl).trans y1; have y2 := (HB4.frozen (p := ⟨r, 2, none⟩) hRl).trans y2; have y3 := (HB4.frozen (p := ⟨r, 3, none⟩) hRl).trans y3))
  go_wp2_with fail
  have rr := RR.out
  unfold set4 at rr
  simp only at rr
  generalize (((w4.setCell ⟨r, 0, none⟩ (.int .u64 (wi p0))).setCell ⟨r, 1, none⟩ (.int .u64 (wi p1))).setCell ⟨r, 2, none⟩ (.int .u64 (wi p2))).setCell ⟨r, 3, none⟩ (.int .u64 (wi p3)) = wf at *
  have z0 := rr.c0; have z1 := rr.c1; have z2 := rr.c2; have z3 := rr.c3
  simp only at z0 z1 z2 z3
  refine bodyPost_ret (v := .agg #[.int .u64 (wi p0), .int .u64 (wi p1), .int .u64 (wi p2), .int .u64 (wi p3)]) (by simp [results, Try.results37, go_sem, z0, z1, z2, z3]) rfl ⟨rfl, by rw [hgs]; exact rr.below⟩
set_option maxHeartbeats 2000000 in
theorem takenOf_any (v : S) (m : W64) (w : World) : Calls Try.prog 39 #[aS v, .int .u64 (wi m)] w fun e w' => e = .returned (aS (take v m)) ∧ Below w.heap.size w w' := by
  have G := Lib.hid (two_v w v 59 59)
  have R := Lib.hid (two_r w v 59 59)
  have hs : w.heap.size ≤ (two w v 59 59).heap.size := by unfold two; simp; omega
  have e1 := xored_any v.d m
  have e2 := roundOf_any ⟨v.a, v.b, v.c, v.d ^^^ m⟩
  obtain ⟨r1, h1⟩ : ∃ x, round ⟨v.a, v.b, v.c, v.d ^^^ m⟩ = x := ⟨_, rfl⟩
  obtain ⟨r2, h2⟩ : ∃ x, round r1 = x := ⟨_, rfl⟩
  have e3 := roundOf_any r1
  have e4 := xored_any r2.a m
  have hT : take v m = ⟨r2.a ^^^ m, r2.b, r2.c, r2.d⟩ := by unfold take; rw [h1, h2]
  rw [h1] at e2; rw [h2] at e3
  have HT := Lib.hid hT
  clear h1 h2 hT
  unfold aS at *
  simp only at e2
  have hne : w.heap.size + 1 ≠ w.heap.size := by omega
  have hne' : w.heap.size ≠ w.heap.size + 1 := by omega
  go_enter Try.func39, Try.ntmps39
  go_wp2_with fail
  refine (e1 _).mono ?_
  rintro en w1 ⟨rfl, hb⟩
  have G1 := Lib.hid (G.out.next hb hs)
  have R1 := Lib.hid (R.out.next hb hs)
  clear G R hb hs
  have b0 := G1.out.c0; have b1 := G1.out.c1; have b2 := G1.out.c2; have b3 := G1.out.c3
  have f0 := G1.out.fr 0; have f1 := G1.out.fr 1; have f2 := G1.out.fr 2; have f3 := G1.out.fr 3
  have sz1 : w.heap.size ≤ w1.heap.size := G1.out.below.size
  have G1' := Lib.hid (G1.out.set3 (v.d ^^^ m))
  have R1' := Lib.hid (R1.out.far hne' (Nat.le_refl _) 3 (.int .u64 (wi (v.d ^^^ m))))
  have sz1' : w.heap.size ≤ (w1.setCell ⟨w.heap.size, 3, none⟩ (.int .u64 (wi (v.d ^^^ m)))).heap.size := by simpa using sz1
  go_wp2_with fail
  refine (e2 _).mono ?_
  rintro en w2 ⟨rfl, hb⟩
  have G2 := Lib.hid (G1'.out.next hb sz1')
  have R2 := Lib.hid (R1'.out.next hb sz1')
  clear hb G1 R1 G1' R1' sz1' sz1 b0 b1 b2 b3 f0 f1 f2 f3
  go_wp2_with fail
  refine (e3 _).mono ?_
  rintro en w3 ⟨rfl, hb⟩
  have sz2 : w.heap.size ≤ w2.heap.size := G2.out.below.size
  have G3 := Lib.hid (G2.out.next hb sz2)
  have R3 := Lib.hid (R2.out.next hb sz2)
  clear hb G2 R2 sz2
  have b0 := G3.out.c0; have b1 := G3.out.c1; have b2 := G3.out.c2; have b3 := G3.out.c3
  have f0 := G3.out.fr 0; have f1 := G3.out.fr 1; have f2 := G3.out.fr 2; have f3 := G3.out.fr 3
  have sz3 : w.heap.size ≤ w3.heap.size := G3.out.below.size
  have G3' := Lib.hid (G3.out.put r2)
  have R3' := Lib.hid (R3.out.far4 hne' (Nat.le_refl _) r2)
  have sz3' : w.heap.size ≤ (set4 w3 w.heap.size r2).heap.size := by unfold set4; simpa using sz3
  clear G3 R3
  unfold set4 at G3' R3' sz3'
  go_wp2_with fail
  refine (e4 _).mono ?_
  rintro en w4 ⟨rfl, hb⟩
  have G4 := Lib.hid (G3'.out.next hb sz3')
  have R4 := Lib.hid (R3'.out.next hb sz3')
  clear hb G3' R3' sz3' sz3 b0 b1 b2 b3 f0 f1 f2 f3
  have b0 := G4.out.c0; have b1 := G4.out.c1; have b2 := G4.out.c2; have b3 := G4.out.c3
  have f0 := G4.out.fr 0; have f1 := G4.out.fr 1; have f2 := G4.out.fr 2; have f3 := G4.out.fr 3
  have R4' := Lib.hid (R4.out.far hne' (Nat.le_refl _) 0 (.int .u64 (wi (r2.a ^^^ m))))
  have G4' := Lib.hid (G4.out.set0 (r2.a ^^^ m))
  have x0 := R4.out.c0; have x1 := R4.out.c1; have x2 := R4.out.c2; have x3 := R4.out.c3
  have y0 := R4.out.fr 0; have y1 := R4.out.fr 1; have y2 := R4.out.fr 2; have y3 := R4.out.fr 3
  simp only at x0 x1 x2 x3
  have z : wi 0 = 0 := rfl
  rw [z] at x0 x1 x2 x3
  have RR := Lib.hid (R4'.out.put ⟨r2.a ^^^ m, r2.b, r2.c, r2.d⟩)
  clear G4 R4 R4' G4' z
  go_wp2
  have rr := RR.out
  unfold set4 at rr
  simp only at rr
  generalize ((((w4.setCell ⟨w.heap.size, 0, none⟩ (.int .u64 (wi (r2.a ^^^ m)))).setCell ⟨w.heap.size + 1, 0, none⟩ (.int .u64 (wi (r2.a ^^^ m)))).setCell ⟨w.heap.size + 1, 1, none⟩ (.int .u64 (wi r2.b))).setCell ⟨w.heap.size + 1, 2, none⟩ (.int .u64 (wi r2.c))).setCell ⟨w.heap.size + 1, 3, none⟩ (.int .u64 (wi r2.d)) = wf at *
  have z0 := rr.c0; have z1 := rr.c1; have z2 := rr.c2; have z3 := rr.c3
  simp only at z0 z1 z2 z3
  rw [HT.out]
  refine bodyPost_ret (v := .agg #[.int .u64 (wi (r2.a ^^^ m)), .int .u64 (wi r2.b), .int .u64 (wi r2.c), .int .u64 (wi r2.d)]) (by simp [results, Try.results39, go_sem, z0, z1, z2, z3]) rfl ⟨rfl, rr.below⟩
set_option maxHeartbeats 2000000 in
theorem finishOf_any (v : S) (w : World) : Calls Try.prog 40 #[aS v] w fun e w' => e = .returned (.int .u64 (wi (finish v))) ∧ Below w.heap.size w w' := by
  have G := Lib.hid (st4 w v 59)
  have hs : w.heap.size ≤ (w.alloc (.cells #[.int .u64 (wi v.a), .int .u64 (wi v.b), .int .u64 (wi v.c), .int .u64 (wi v.d)] 59)).heap.size := by simp
  have e1 := xored_any v.c 255
  have e2 := roundOf_any ⟨v.a, v.b, v.c ^^^ 255, v.d⟩
  obtain ⟨r1, h1⟩ : ∃ x, round ⟨v.a, v.b, v.c ^^^ 255, v.d⟩ = x := ⟨_, rfl⟩
  obtain ⟨r2, h2⟩ : ∃ x, round r1 = x := ⟨_, rfl⟩
  obtain ⟨r3, h3⟩ : ∃ x, round r2 = x := ⟨_, rfl⟩
  obtain ⟨r4, h4⟩ : ∃ x, round r3 = x := ⟨_, rfl⟩
  have e3 := roundOf_any r1
  have e4 := roundOf_any r2
  have e5 := roundOf_any r3
  have hT : finish v = (r4.a ^^^ r4.b) ^^^ (r4.c ^^^ r4.d) := by unfold finish; rw [h1, h2, h3, h4]; simp [BitVec.xor_assoc]
  rw [h1] at e2; rw [h2] at e3; rw [h3] at e4; rw [h4] at e5
  have HT := Lib.hid hT
  clear h1 h2 h3 h4 hT
  unfold aS at *
  simp only at e2
  have z255 : wi 255 = 255 := rfl
  rw [z255] at e1
  go_enter Try.func40, Try.ntmps40
  go_wp2_with fail
  refine (e1 _).mono ?_
  rintro en w1 ⟨rfl, hb⟩
  have G1 := Lib.hid (G.out.next hb hs)
  clear G hb hs
  have b0 := G1.out.c0; have b1 := G1.out.c1; have b2 := G1.out.c2; have b3 := G1.out.c3
  have f0 := G1.out.fr 0; have f1 := G1.out.fr 1; have f2 := G1.out.fr 2; have f3 := G1.out.fr 3
  have sz1 : w.heap.size ≤ w1.heap.size := G1.out.below.size
  have G1' := Lib.hid (G1.out.set2 (v.c ^^^ 255))
  have sz1' : w.heap.size ≤ (w1.setCell ⟨w.heap.size, 2, none⟩ (.int .u64 (wi (v.c ^^^ 255)))).heap.size := by simpa using sz1
  go_wp2_with fail
  refine (e2 _).mono ?_
  rintro en w2 ⟨rfl, hb⟩
  have G2 := Lib.hid (G1'.out.next hb sz1')
  have sz2 : w.heap.size ≤ w2.heap.size := G2.out.below.size
  clear hb G1 G1' sz1' sz1 b0 b1 b2 b3 f0 f1 f2 f3
  go_wp2_with fail
  refine (e3 _).mono ?_
  rintro en w3 ⟨rfl, hb⟩
  have G3 := Lib.hid (G2.out.next hb sz2)
  have sz3 : w.heap.size ≤ w3.heap.size := G3.out.below.size
  clear hb G2 sz2
  go_wp2_with fail
  refine (e4 _).mono ?_
  rintro en w4 ⟨rfl, hb⟩
  have G4 := Lib.hid (G3.out.next hb sz3)
  have sz4 : w.heap.size ≤ w4.heap.size := G4.out.below.size
  clear hb G3 sz3
  go_wp2_with fail
  refine (e5 _).mono ?_
  rintro en w5 ⟨rfl, hb⟩
  have G5 := Lib.hid (G4.out.next hb sz4)
  clear hb G4 sz4
  have b0 := G5.out.c0; have b1 := G5.out.c1; have b2 := G5.out.c2; have b3 := G5.out.c3
  have f0 := G5.out.fr 0; have f1 := G5.out.fr 1; have f2 := G5.out.fr 2; have f3 := G5.out.fr 3
  have G5' := Lib.hid (G5.out.put r4)
  clear G5
  unfold set4 at G5'
  have X1 := Lib.hid (xored_any r4.a r4.b)
  have X2 := Lib.hid (xored_any r4.c r4.d)
  have X3 := Lib.hid (xored_any (r4.a ^^^ r4.b) (r4.c ^^^ r4.d))
  go_wp2_with fail
  generalize ((((w5.setCell ⟨w.heap.size, 0, none⟩ (.int .u64 (wi r4.a))).setCell ⟨w.heap.size, 1, none⟩ (.int .u64 (wi r4.b))).setCell ⟨w.heap.size, 2, none⟩ (.int .u64 (wi r4.c))).setCell ⟨w.heap.size, 3, none⟩ (.int .u64 (wi r4.d))) = wx at *
  clear b0 b1 b2 b3 f0 f1 f2 f3 e1 e2 e3 e4 e5 z255
  have c0 := G5'.out.c0; have c1 := G5'.out.c1; have c2 := G5'.out.c2; have c3 := G5'.out.c3
  have HB := Lib.hid G5'.out.below
  have hsz : w.heap.size ≤ wx.heap.size := HB.out.size
  clear G5'
  generalize r4.a = a at *
  generalize r4.b = b at *
  generalize r4.c = c at *
  generalize r4.d = d at *
  generalize hgs : w.heap.size = g at *
  go_region_held3 (fun w' => w'.cell? ⟨g, 0, none⟩ = some (.int .u64 (wi a)) ∧ w'.cell? ⟨g, 1, none⟩ = some (.int .u64 (wi b)) ∧ w'.cell? ⟨g, 2, none⟩ = some (.int .u64 (wi c)) ∧ w'.cell? ⟨g, 3, none⟩ = some (.int .u64 (wi d)))
    (first | go_keep | (go_split_ands; (repeat' apply And.intro) <;> first | assumption | (with_reducible exact kp hb3 (by assumption)) | (with_reducible exact kp hb2 (by assumption)) | (with_reducible exact kp hb1 (by assumption))))
    (first
      | (go_at_call 42; (with_reducible refine (X1.out _).mono ?_); rintro en u1 ⟨rfl, hb1⟩)
      | (go_at_call 42; (with_reducible refine (X2.out _).mono ?_); rintro en u2 ⟨rfl, hb2⟩)
      | (go_at_call 42; (with_reducible refine (X3.out _).mono ?_); rintro en u3 ⟨rfl, hb3⟩))
  have hend := bt (bt (bd (br wx) hb1) hb2) hb3
  go_wp2
  go_ret
  exact ⟨by rw [HT.out]; rfl, by rw [hgs]; exact HB.out.trans (hend.mono hsz)⟩
end Tg
end Go.Proofs.Ytmeoeihfgmmgmaa
