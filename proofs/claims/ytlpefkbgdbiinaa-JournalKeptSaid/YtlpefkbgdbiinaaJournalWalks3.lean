/- Journals: sync, add, crash. (Written by gen_journal.py.) -/
import Derived.Test.YtlpefkbgdbiinaaJournalWalks2
set_option linter.unusedVariables false
namespace Go.Proofs.Ytlpefkbgdbiinaa
open Go.RowKit
namespace Jr
open Fr
set_option maxHeartbeats 2000000 in
theorem sync_any (K T : Bs) (hs : K.size + T.size ≤ 1000000000000000) (w : World) : Calls Try.prog 19 #[aL K T] w (LogQ (syncJ K T) w) := by
  have C1 := Lib.hid (check_any K T hs)
  have C2 := Lib.hid (all_any K T hs)
  have hR : syncJ K T = if lok K T = true then ((K ++ T, emptyS), 0) else (zL, 1) := rfl
  have hC : chkJ K T = if lok K T = true then 0 else 1 := rfl
  obtain ⟨X, hX⟩ : ∃ X, K ++ T = X := ⟨_, rfl⟩
  rw [hX] at C2 hR
  rw [hR]
  rw [hC] at C1
  clear hX hR hC
  unfold aL at *
  have k0 := lb0 w K T
  have k1 := lb1 w K T
  have HB0 := Lib.hid ((br w).alloc (Nat.le_refl _) (LB K T))
  rcases hb : lok K T with _ | _
  · rw [hb, if_neg (by simp)] at C1
    rw [if_neg (by simp)]
    clear hb
    go_enter Try.func19, Try.ntmps19
    go_wp2_with fail
    refine (C1.out _).mono ?_
    rintro en w1 ⟨rfl, b1⟩
    have hl_w1 : Lb w1 (w.heap.size + 1) ⟨#[]⟩ ⟨#[]⟩ := by
      have := Box.new (w.alloc (LB K T)) 34 [.string ⟨#[]⟩, .string ⟨#[]⟩]
      rw [World.size_alloc] at this
      exact this.next b1
    have HL_w1 := Lib.hid hl_w1
    have B1 := Lib.hid (bt (HB0.out.alloc HB0.out.size _) b1)
    have r0 := HL_w1.out.cell 0; have r1 := HL_w1.out.cell 1; have g0 := HL_w1.out.froz 0; have g1 := HL_w1.out.froz 1
    simp only [List.getElem?_cons_zero, List.getElem?_cons_succ] at r0 r1
    clear b1 hl_w1
    go_wp2_with fail
    have P := Lb.put HL_w1.out ⟨#[]⟩ ⟨#[]⟩
    have Q := below2 B1.out (b := w.heap.size + 1) (by omega) (.string ⟨#[]⟩) (.string ⟨#[]⟩)
    generalize (w1.setCell ⟨w.heap.size + 1, 0, none⟩ (.string ⟨#[]⟩)).setCell ⟨w.heap.size + 1, 1, none⟩ (.string ⟨#[]⟩) = W2 at P Q ⊢
    have y0 := P.cell 0; have y1 := P.cell 1
    simp only [List.getElem?_cons_zero, List.getElem?_cons_succ] at y0 y1
    refine bodyPost_ret (v := .tuple #[.agg #[.string ⟨#[]⟩, .string ⟨#[]⟩], .int .i64 1]) (by simp [results, Try.results19, go_sem, y0, y1]) rfl ⟨rfl, Q⟩
  · rw [hb, if_pos rfl] at C1
    rw [if_pos rfl]
    clear hb
    go_enter Try.func19, Try.ntmps19
    go_wp2_with fail
    refine (C1.out _).mono ?_
    rintro en w1 ⟨rfl, b1⟩
    have hl_w1 : Lb w1 (w.heap.size + 1) ⟨#[]⟩ ⟨#[]⟩ := by
      have := Box.new (w.alloc (LB K T)) 34 [.string ⟨#[]⟩, .string ⟨#[]⟩]
      rw [World.size_alloc] at this
      exact this.next b1
    have HL_w1 := Lib.hid hl_w1
    have B1 := Lib.hid (bt (HB0.out.alloc HB0.out.size _) b1)
    have c0 := kp b1 (kp ((br _).alloc (Nat.le_refl _) _) k0)
    have c1 := kp b1 (kp ((br _).alloc (Nat.le_refl _) _) k1)
    clear b1 hl_w1
    go_wp2_with fail
    refine (C2.out _).mono ?_
    rintro en w2 ⟨rfl, b2⟩
    have HL_w2 := Lib.hid (HL_w1.out.next b2)
    have B2 := Lib.hid (bt B1.out b2)
    clear b2
    have r0 := HL_w2.out.cell 0; have r1 := HL_w2.out.cell 1; have g0 := HL_w2.out.froz 0; have g1 := HL_w2.out.froz 1
    simp only [List.getElem?_cons_zero, List.getElem?_cons_succ] at r0 r1
    go_wp2_with fail
    have P := Lb.put HL_w2.out X ⟨#[]⟩
    have Q := below2 B2.out (b := w.heap.size + 1) (by omega) (.string X) (.string ⟨#[]⟩)
    generalize (w2.setCell ⟨w.heap.size + 1, 0, none⟩ (.string X)).setCell ⟨w.heap.size + 1, 1, none⟩ (.string ⟨#[]⟩) = W2 at P Q ⊢
    have y0 := P.cell 0; have y1 := P.cell 1
    simp only [List.getElem?_cons_zero, List.getElem?_cons_succ] at y0 y1
    refine bodyPost_ret (v := .tuple #[.agg #[.string X, .string ⟨#[]⟩], .int .i64 0]) (by simp [results, Try.results19, go_sem, y0, y1]) rfl ⟨rfl, Q⟩
theorem framed_write (s : Bs) (h : s.size ≤ 400) : writeF [s] = (framed s, 0) := write_ok _ (by simp) (fun t ht => by simp at ht; subst ht; exact h)
theorem framed_size (s : Bs) (h : s.size ≤ 400) : (framed s).size = 2 + s.size := by
  have hl : s.data.toList.length = s.size := rfl
  unfold framed; rw [mk_size]; simp [encL, hd]; simp at hl; omega
set_option maxHeartbeats 2000000 in
theorem add_any (K T s : Bs) (hs : K.size + T.size ≤ 500000000000000) (hss : s.size ≤ 9223372036854775807) (w : World) : Calls Try.prog 18 #[aL K T, .string s] w (LogQ (addJ K T s) w) := by
  have C1 := Lib.hid (items_any K T (by omega))
  have hR : addJ K T s = if lok K T = true then (if 400 < s.size ∨ (itemsJ K T).length = 64 then (zL, 2) else ((K, T ++ framed s), 0)) else (zL, 1) := rfl
  have hI : itemsF K T = if lok K T = true then (itemsJ K T, 0) else ([], 1) := rfl
  rw [hI] at C1
  rw [hR]
  clear hR hI
  unfold aL at *
  have k0 := lb0 w K T
  have k1 := lb1 w K T
  have HB0 := Lib.hid ((br w).alloc (Nat.le_refl _) (LB K T))
  have HX0 := Lib.hid (Box.new w 34 [.string K, .string T])
  rcases hb : lok K T with _ | _
  · rw [hb, if_neg (by simp)] at C1
    rw [if_neg (by simp)]
    clear hb
    go_enter Try.func18, Try.ntmps18
    go_wp2_with fail
    refine (C1.out _).mono ?_
    rintro en w1 ⟨v1, rfl, r1, b1⟩
    have hl_w1 : Lb w1 (w.heap.size + 1) ⟨#[]⟩ ⟨#[]⟩ := by
      have := Box.new (w.alloc (LB K T)) 34 [.string ⟨#[]⟩, .string ⟨#[]⟩]
      rw [World.size_alloc] at this
      exact this.next b1
    have HL_w1 := Lib.hid hl_w1
    have B1 := Lib.hid (bt (HB0.out.alloc HB0.out.size _) b1)
    have HX1 := Lib.hid ((HX0.out.alloc (.cells #[.string ⟨#[]⟩, .string ⟨#[]⟩] 34)).next b1)
    obtain ⟨a1, c1, rfl, _, _, _⟩ := r1
    have r0 := HL_w1.out.cell 0; have r1 := HL_w1.out.cell 1; have g0 := HL_w1.out.froz 0; have g1 := HL_w1.out.froz 1
    simp only [List.getElem?_cons_zero, List.getElem?_cons_succ] at r0 r1
    clear b1 hl_w1
    go_wp2_with fail
    have P := Lb.put HL_w1.out ⟨#[]⟩ ⟨#[]⟩
    have Q := below2 B1.out (b := w.heap.size + 1) (by omega) (.string ⟨#[]⟩) (.string ⟨#[]⟩)
    generalize (w1.setCell ⟨w.heap.size + 1, 0, none⟩ (.string ⟨#[]⟩)).setCell ⟨w.heap.size + 1, 1, none⟩ (.string ⟨#[]⟩) = W2 at P Q ⊢
    have y0 := P.cell 0; have y1 := P.cell 1
    simp only [List.getElem?_cons_zero, List.getElem?_cons_succ] at y0 y1
    refine bodyPost_ret (v := .tuple #[.agg #[.string ⟨#[]⟩, .string ⟨#[]⟩], .int .i64 1]) (by simp [results, Try.results18, go_sem, y0, y1]) rfl ⟨rfl, Q⟩
  · rw [hb, if_pos rfl] at C1
    rw [if_pos rfl]
    clear hb
    generalize itemsJ K T = R at *
    by_cases h4 : 400 < s.size
    · rw [if_pos (.inl h4)]
      have h4' : (400 : Int) < (s.size : Int) := by omega
      go_enter Try.func18, Try.ntmps18
      go_wp2_with fail
      refine (C1.out _).mono ?_
      rintro en w1 ⟨v1, rfl, r1, b1⟩
      have hl_w1 : Lb w1 (w.heap.size + 1) ⟨#[]⟩ ⟨#[]⟩ := by
        have := Box.new (w.alloc (LB K T)) 34 [.string ⟨#[]⟩, .string ⟨#[]⟩]
        rw [World.size_alloc] at this
        exact this.next b1
      have HL_w1 := Lib.hid hl_w1
      have B1 := Lib.hid (bt (HB0.out.alloc HB0.out.size _) b1)
      have HX1 := Lib.hid ((HX0.out.alloc (.cells #[.string ⟨#[]⟩, .string ⟨#[]⟩] 34)).next b1)
      obtain ⟨a1, c1, rfl, _, _, _⟩ := r1
      have r0 := HL_w1.out.cell 0; have r1 := HL_w1.out.cell 1; have g0 := HL_w1.out.froz 0; have g1 := HL_w1.out.froz 1
      simp only [List.getElem?_cons_zero, List.getElem?_cons_succ] at r0 r1
      clear b1 hl_w1
      go_wp2_with fail
      have P := Lb.put HL_w1.out ⟨#[]⟩ ⟨#[]⟩
      have Q := below2 B1.out (b := w.heap.size + 1) (by omega) (.string ⟨#[]⟩) (.string ⟨#[]⟩)
      generalize (w1.setCell ⟨w.heap.size + 1, 0, none⟩ (.string ⟨#[]⟩)).setCell ⟨w.heap.size + 1, 1, none⟩ (.string ⟨#[]⟩) = W2 at P Q ⊢
      have y0 := P.cell 0; have y1 := P.cell 1
      simp only [List.getElem?_cons_zero, List.getElem?_cons_succ] at y0 y1
      refine bodyPost_ret (v := .tuple #[.agg #[.string ⟨#[]⟩, .string ⟨#[]⟩], .int .i64 2]) (by simp [results, Try.results18, go_sem, y0, y1]) rfl ⟨rfl, Q⟩
    · have h4' : ¬ (400 : Int) < (s.size : Int) := by omega
      by_cases h6 : R.length = 64
      · rw [if_pos (.inr h6)]
        have h6' : ((R.length : Int) == 64) = true := by simp [h6]
        clear h6
        go_enter Try.func18, Try.ntmps18
        go_wp2_with fail
        refine (C1.out _).mono ?_
        rintro en w1 ⟨v1, rfl, r1, b1⟩
        have hl_w1 : Lb w1 (w.heap.size + 1) ⟨#[]⟩ ⟨#[]⟩ := by
          have := Box.new (w.alloc (LB K T)) 34 [.string ⟨#[]⟩, .string ⟨#[]⟩]
          rw [World.size_alloc] at this
          exact this.next b1
        have HL_w1 := Lib.hid hl_w1
        have B1 := Lib.hid (bt (HB0.out.alloc HB0.out.size _) b1)
        have HX1 := Lib.hid ((HX0.out.alloc (.cells #[.string ⟨#[]⟩, .string ⟨#[]⟩] 34)).next b1)
        obtain ⟨a1, c1, rfl, _, _, _⟩ := r1
        have r0 := HL_w1.out.cell 0; have r1 := HL_w1.out.cell 1; have g0 := HL_w1.out.froz 0; have g1 := HL_w1.out.froz 1
        simp only [List.getElem?_cons_zero, List.getElem?_cons_succ] at r0 r1
        clear b1 hl_w1
        go_wp2_with fail
        have P := Lb.put HL_w1.out ⟨#[]⟩ ⟨#[]⟩
        have Q := below2 B1.out (b := w.heap.size + 1) (by omega) (.string ⟨#[]⟩) (.string ⟨#[]⟩)
        generalize (w1.setCell ⟨w.heap.size + 1, 0, none⟩ (.string ⟨#[]⟩)).setCell ⟨w.heap.size + 1, 1, none⟩ (.string ⟨#[]⟩) = W2 at P Q ⊢
        have y0 := P.cell 0; have y1 := P.cell 1
        simp only [List.getElem?_cons_zero, List.getElem?_cons_succ] at y0 y1
        refine bodyPost_ret (v := .tuple #[.agg #[.string ⟨#[]⟩, .string ⟨#[]⟩], .int .i64 2]) (by simp [results, Try.results18, go_sem, y0, y1]) rfl ⟨rfl, Q⟩
      · rw [if_neg (by omega)]
        have h6' : ((R.length : Int) == 64) = false := by rw [beq_eq_false_iff_ne]; omega
        clear h6
        have C2 : RowKit.Hid (∀ v w, RdE elS w v [s] → Calls Try.prog 11 #[v] w (TextQ (framed s, 0) w)) := Lib.hid (fun v w h => by have := write_any v [s] w h (by intro t ht; simp at ht; subst ht; omega); rw [framed_write s (by omega)] at this; exact this)
        have hfs := framed_size s (by omega)
        have ct1 := fun w => run_string_add_sum (P := Try.prog) (w := w) T (framed s) (by omega)
        obtain ⟨M, hM⟩ : ∃ M, T ++ framed s = M := ⟨_, rfl⟩
        simp only [hM] at ct1 ⊢
        generalize framed s = F at *
        clear hM hfs
        go_enter Try.func18, Try.ntmps18
        go_wp2_with fail
        refine (C1.out _).mono ?_
        rintro en w1 ⟨v1, rfl, r1, b1⟩
        have hl_w1 : Lb w1 (w.heap.size + 1) ⟨#[]⟩ ⟨#[]⟩ := by
          have := Box.new (w.alloc (LB K T)) 34 [.string ⟨#[]⟩, .string ⟨#[]⟩]
          rw [World.size_alloc] at this
          exact this.next b1
        have HL_w1 := Lib.hid hl_w1
        have B1 := Lib.hid (bt (HB0.out.alloc HB0.out.size _) b1)
        have HX1 := Lib.hid ((HX0.out.alloc (.cells #[.string ⟨#[]⟩, .string ⟨#[]⟩] 34)).next b1)
        obtain ⟨a1, c1, rfl, _, _, _⟩ := r1
        have hw1 := litS [s] w1 (by unfold maxLen; simp)
        have HW1 := Lib.hid hw1
        clear b1 hl_w1 hw1
        go_wp2_with fail
        refine (C2.out _ _ HW1.out).mono ?_
        rintro en w2 ⟨rfl, b2⟩
        have hal := (br w1).alloc (Nat.le_refl _) (.cells #[.string s] 9)
        have HL_w2 := Lib.hid ((HL_w1.out.next hal).next b2)
        have HX2 := Lib.hid ((HX1.out.next hal).next b2)
        have B2 := Lib.hid (bt (B1.out.alloc B1.out.size (.cells #[.string s] 9)) b2)
        clear b2 hal
        have r0 := HL_w2.out.cell 0; have r1 := HL_w2.out.cell 1; have g0 := HL_w2.out.froz 0; have g1 := HL_w2.out.froz 1
        simp only [List.getElem?_cons_zero, List.getElem?_cons_succ] at r0 r1
        have x0 := HX2.out.cell 0; have x1 := HX2.out.cell 1; have z0 := HX2.out.froz 0; have z1 := HX2.out.froz 1
        simp only [List.getElem?_cons_zero, List.getElem?_cons_succ] at x0 x1
        go_wp2_with fail
        have P := Lb.put (HL_w2.out.other w.heap.size 1 (.string M) (by omega)) K M
        have Q := below2 (B2.out.setCell (p := ⟨w.heap.size, 1, none⟩) (Nat.le_refl _) (.string M)) (b := w.heap.size + 1) (by omega) (.string K) (.string M)
        generalize ((w2.setCell ⟨w.heap.size, 1, none⟩ (.string M)).setCell ⟨w.heap.size + 1, 0, none⟩ (.string K)).setCell ⟨w.heap.size + 1, 1, none⟩ (.string M) = W2 at P Q ⊢
        have y0 := P.cell 0; have y1 := P.cell 1
        simp only [List.getElem?_cons_zero, List.getElem?_cons_succ] at y0 y1
        refine bodyPost_ret (v := .tuple #[.agg #[.string K, .string M], .int .i64 0]) (by simp [results, Try.results18, go_sem, y0, y1]) rfl ⟨rfl, Q⟩
set_option maxHeartbeats 2000000 in
theorem crash_any (K T : Bs) (k : Int) (hs : K.size + T.size ≤ 1000000000000000) (w : World) : Calls Try.prog 20 #[aL K T, .int .i64 k] w (LogQ (crashJ K T k) w) := by
  have C1 := Lib.hid (check_any K T hs)
  have hR : crashJ K T k = if lok K T = true then (if k < 0 ∨ (T.size : Int) < k then (zL, 3) else ((cutJ (K ++ T.extract 0 k.toNat), emptyS), 0)) else (zL, 1) := rfl
  have hC : chkJ K T = if lok K T = true then 0 else 1 := rfl
  rw [hC] at C1
  rw [hR]
  clear hR hC
  unfold aL at *
  have k0 := lb0 w K T
  have k1 := lb1 w K T
  have HB0 := Lib.hid ((br w).alloc (Nat.le_refl _) (LB K T))
  have HX0 := Lib.hid (Box.new w 34 [.string K, .string T])
  rcases hb : lok K T with _ | _
  · rw [hb, if_neg (by simp)] at C1
    rw [if_neg (by simp)]
    clear hb
    go_enter Try.func20, Try.ntmps20
    go_wp2_with fail
    refine (C1.out _).mono ?_
    rintro en w1 ⟨rfl, b1⟩
    have hl_w1 : Lb w1 (w.heap.size + 1) ⟨#[]⟩ ⟨#[]⟩ := by
      have := Box.new (w.alloc (LB K T)) 34 [.string ⟨#[]⟩, .string ⟨#[]⟩]
      rw [World.size_alloc] at this
      exact this.next b1
    have HL_w1 := Lib.hid hl_w1
    have B1 := Lib.hid (bt (HB0.out.alloc HB0.out.size _) b1)
    have HX1 := Lib.hid ((HX0.out.alloc (.cells #[.string ⟨#[]⟩, .string ⟨#[]⟩] 34)).next b1)
    have r0 := HL_w1.out.cell 0; have r1 := HL_w1.out.cell 1; have g0 := HL_w1.out.froz 0; have g1 := HL_w1.out.froz 1
    simp only [List.getElem?_cons_zero, List.getElem?_cons_succ] at r0 r1
    have x0 := HX1.out.cell 0; have x1 := HX1.out.cell 1
    simp only [List.getElem?_cons_zero, List.getElem?_cons_succ] at x0 x1
    clear b1 hl_w1
    go_wp2_with fail
    have P := Lb.put HL_w1.out ⟨#[]⟩ ⟨#[]⟩
    have Q := below2 B1.out (b := w.heap.size + 1) (by omega) (.string ⟨#[]⟩) (.string ⟨#[]⟩)
    generalize (w1.setCell ⟨w.heap.size + 1, 0, none⟩ (.string ⟨#[]⟩)).setCell ⟨w.heap.size + 1, 1, none⟩ (.string ⟨#[]⟩) = W2 at P Q ⊢
    have y0 := P.cell 0; have y1 := P.cell 1
    simp only [List.getElem?_cons_zero, List.getElem?_cons_succ] at y0 y1
    refine bodyPost_ret (v := .tuple #[.agg #[.string ⟨#[]⟩, .string ⟨#[]⟩], .int .i64 1]) (by simp [results, Try.results20, go_sem, y0, y1]) rfl ⟨rfl, Q⟩
  · rw [hb, if_pos rfl] at C1
    rw [if_pos rfl]
    clear hb
    rcases (show k < 0 ∨ (0 ≤ k ∧ (T.size : Int) < k) ∨ (0 ≤ k ∧ k ≤ (T.size : Int)) by omega) with hk | ⟨hk0, hk⟩ | ⟨hk0, hk⟩
    · rw [if_pos (.inl hk)]
      go_enter Try.func20, Try.ntmps20
      go_wp2_with fail
      refine (C1.out _).mono ?_
      rintro en w1 ⟨rfl, b1⟩
      have hl_w1 : Lb w1 (w.heap.size + 1) ⟨#[]⟩ ⟨#[]⟩ := by
        have := Box.new (w.alloc (LB K T)) 34 [.string ⟨#[]⟩, .string ⟨#[]⟩]
        rw [World.size_alloc] at this
        exact this.next b1
      have HL_w1 := Lib.hid hl_w1
      have B1 := Lib.hid (bt (HB0.out.alloc HB0.out.size _) b1)
      have HX1 := Lib.hid ((HX0.out.alloc (.cells #[.string ⟨#[]⟩, .string ⟨#[]⟩] 34)).next b1)
      have r0 := HL_w1.out.cell 0; have r1 := HL_w1.out.cell 1; have g0 := HL_w1.out.froz 0; have g1 := HL_w1.out.froz 1
      simp only [List.getElem?_cons_zero, List.getElem?_cons_succ] at r0 r1
      have x0 := HX1.out.cell 0; have x1 := HX1.out.cell 1
      simp only [List.getElem?_cons_zero, List.getElem?_cons_succ] at x0 x1
      clear b1 hl_w1
      go_wp2_with fail
      have P := Lb.put HL_w1.out ⟨#[]⟩ ⟨#[]⟩
      have Q := below2 B1.out (b := w.heap.size + 1) (by omega) (.string ⟨#[]⟩) (.string ⟨#[]⟩)
      generalize (w1.setCell ⟨w.heap.size + 1, 0, none⟩ (.string ⟨#[]⟩)).setCell ⟨w.heap.size + 1, 1, none⟩ (.string ⟨#[]⟩) = W2 at P Q ⊢
      have y0 := P.cell 0; have y1 := P.cell 1
      simp only [List.getElem?_cons_zero, List.getElem?_cons_succ] at y0 y1
      refine bodyPost_ret (v := .tuple #[.agg #[.string ⟨#[]⟩, .string ⟨#[]⟩], .int .i64 3]) (by simp [results, Try.results20, go_sem, y0, y1]) rfl ⟨rfl, Q⟩
    · rw [if_pos (.inr hk)]
      go_enter Try.func20, Try.ntmps20
      go_wp2_with fail
      refine (C1.out _).mono ?_
      rintro en w1 ⟨rfl, b1⟩
      have hl_w1 : Lb w1 (w.heap.size + 1) ⟨#[]⟩ ⟨#[]⟩ := by
        have := Box.new (w.alloc (LB K T)) 34 [.string ⟨#[]⟩, .string ⟨#[]⟩]
        rw [World.size_alloc] at this
        exact this.next b1
      have HL_w1 := Lib.hid hl_w1
      have B1 := Lib.hid (bt (HB0.out.alloc HB0.out.size _) b1)
      have HX1 := Lib.hid ((HX0.out.alloc (.cells #[.string ⟨#[]⟩, .string ⟨#[]⟩] 34)).next b1)
      have r0 := HL_w1.out.cell 0; have r1 := HL_w1.out.cell 1; have g0 := HL_w1.out.froz 0; have g1 := HL_w1.out.froz 1
      simp only [List.getElem?_cons_zero, List.getElem?_cons_succ] at r0 r1
      have x0 := HX1.out.cell 0; have x1 := HX1.out.cell 1
      simp only [List.getElem?_cons_zero, List.getElem?_cons_succ] at x0 x1
      clear b1 hl_w1
      go_wp2_with fail
      have P := Lb.put HL_w1.out ⟨#[]⟩ ⟨#[]⟩
      have Q := below2 B1.out (b := w.heap.size + 1) (by omega) (.string ⟨#[]⟩) (.string ⟨#[]⟩)
      generalize (w1.setCell ⟨w.heap.size + 1, 0, none⟩ (.string ⟨#[]⟩)).setCell ⟨w.heap.size + 1, 1, none⟩ (.string ⟨#[]⟩) = W2 at P Q ⊢
      have y0 := P.cell 0; have y1 := P.cell 1
      simp only [List.getElem?_cons_zero, List.getElem?_cons_succ] at y0 y1
      refine bodyPost_ret (v := .tuple #[.agg #[.string ⟨#[]⟩, .string ⟨#[]⟩], .int .i64 3]) (by simp [results, Try.results20, go_sem, y0, y1]) rfl ⟨rfl, Q⟩
    · rw [if_neg (by omega)]
      obtain ⟨m, rfl⟩ : ∃ m : Nat, k = (m : Int) := ⟨k.toNat, by omega⟩
      rw [Int.toNat_natCast]
      have hm : m ≤ T.size := by omega
      have hsl : ∀ w, (Instr.slice 9 (.string T) none (some (.int .i64 (m : Int))) none).run Try.prog w = .ok (.string (T.extract 0 m)) w := fun w => by
        have := run_slice_string_h (P := Try.prog) (w := w) 9 T Try.underlying9 .i64 (m : Int) (by omega) (by omega)
        rw [this]; simp
      have hes : (T.extract 0 m).size ≤ T.size := by simp; omega
      have ct1 := fun w => run_string_add_sum (P := Try.prog) (w := w) K (T.extract 0 m) (by omega)
      have hX : (K ++ T.extract 0 m).size ≤ 1000000000000000 := by rw [ByteArray.size_append]; omega
      have C2 := Lib.hid (read_any (K ++ T.extract 0 m) hX)
      unfold cutJ
      generalize T.extract 0 m = F at *
      generalize K ++ F = X at *
      have hn := rd_len 64 X
      generalize (rd 64 X.data.toList).2 = n at *
      have hsl2 : ∀ w, (Instr.slice 9 (.string X) none (some (.int .i64 (n : Int))) none).run Try.prog w = .ok (.string (X.extract 0 n)) w := fun w => by
        have := run_slice_string_h (P := Try.prog) (w := w) 9 X Try.underlying9 .i64 (n : Int) (by omega) (by omega)
        rw [this]; simp
      generalize X.extract 0 n = Y at *
      clear hn hX hes
      go_enter Try.func20, Try.ntmps20
      go_wp2_with fail
      refine (C1.out _).mono ?_
      rintro en w1 ⟨rfl, b1⟩
      have hl_w1 : Lb w1 (w.heap.size + 1) ⟨#[]⟩ ⟨#[]⟩ := by
        have := Box.new (w.alloc (LB K T)) 34 [.string ⟨#[]⟩, .string ⟨#[]⟩]
        rw [World.size_alloc] at this
        exact this.next b1
      have HL_w1 := Lib.hid hl_w1
      have B1 := Lib.hid (bt (HB0.out.alloc HB0.out.size _) b1)
      have HX1 := Lib.hid ((HX0.out.alloc (.cells #[.string ⟨#[]⟩, .string ⟨#[]⟩] 34)).next b1)
      have r0 := HL_w1.out.cell 0; have r1 := HL_w1.out.cell 1; have g0 := HL_w1.out.froz 0; have g1 := HL_w1.out.froz 1
      simp only [List.getElem?_cons_zero, List.getElem?_cons_succ] at r0 r1
      have x0 := HX1.out.cell 0; have x1 := HX1.out.cell 1
      simp only [List.getElem?_cons_zero, List.getElem?_cons_succ] at x0 x1
      have z0 := HX1.out.froz 0; have z1 := HX1.out.froz 1
      clear b1 hl_w1
      go_wp2_with fail
      go_quiet (fail)
      go_wp2_with fail
      refine (C2.out _).mono ?_
      rintro en w2 ⟨v2, rfl, r2, b2⟩
      have HL_w2 := Lib.hid ((HL_w1.out.dr _).next b2)
      have B2 := Lib.hid (bt (bn B1.out _) b2)
      clear b2 r2 r0 r1 g0 g1 x0 x1 z0 z1
      have r0 := HL_w2.out.cell 0; have r1 := HL_w2.out.cell 1; have g0 := HL_w2.out.froz 0; have g1 := HL_w2.out.froz 1
      simp only [List.getElem?_cons_zero, List.getElem?_cons_succ] at r0 r1
      go_wp2_with fail
      have P := Lb.put HL_w2.out Y ⟨#[]⟩
      have Q := below2 B2.out (b := w.heap.size + 1) (by omega) (.string Y) (.string ⟨#[]⟩)
      generalize (w2.setCell ⟨w.heap.size + 1, 0, none⟩ (.string Y)).setCell ⟨w.heap.size + 1, 1, none⟩ (.string ⟨#[]⟩) = W2 at P Q ⊢
      have y0 := P.cell 0; have y1 := P.cell 1
      simp only [List.getElem?_cons_zero, List.getElem?_cons_succ] at y0 y1
      refine bodyPost_ret (v := .tuple #[.agg #[.string Y, .string ⟨#[]⟩], .int .i64 0]) (by simp [results, Try.results20, go_sem, y0, y1]) rfl ⟨rfl, Q⟩
end Jr
end Go.Proofs.Ytlpefkbgdbiinaa
