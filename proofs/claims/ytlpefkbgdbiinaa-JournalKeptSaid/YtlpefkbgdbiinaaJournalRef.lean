/- The document's journals. (Written by gen_journal.py.) -/
import Derived.Test.YtlpefkbgdbiinaaJournalWalks3
set_option linter.unusedVariables false
namespace Go.Proofs.Ytlpefkbgdbiinaa
open Go.RowKit
namespace Jr
open Fr
theorem ofQ_any (s : Bs) (hs : s.size ≤ 1000000000000000) (w : World) : Calls Try.prog 14 #[.string s, .int .i64 64] w (ListQ (rd 64 s.data.toList) w) := ofR_any 64 (by omega) s (by omega) w
set_option maxHeartbeats 2000000 in
theorem checkR_any (K T : Bs) (hs : K.size + T.size ≤ 1000000000000000) (w : World) : Calls Try.prog 21 #[aL K T] w (IntQ (chkJ K T) w) := by
  have C1 := Lib.hid (ofQ_any K (by omega))
  have hsx : (K ++ T).size ≤ 1000000000000000 := by rw [ByteArray.size_append]; omega
  have hsz : (K ++ T).size = K.size + T.size := ByteArray.size_append
  have C2 := Lib.hid (ofQ_any (K ++ T) hsx)
  have hR : chkJ K T = if ((rd 64 K.data.toList).2 = K.size ∧ (rd 64 (K ++ T).data.toList).2 = K.size + T.size) then 0 else 1 := by
    unfold chkJ lok wholeB; rw [hsz]; simp
  rw [hR]
  have ct1 := fun w => run_string_add_sum (P := Try.prog) (w := w) K T (by omega)
  generalize K ++ T = X at *
  unfold ListQ at C1 C2
  generalize rd 64 K.data.toList = A at *
  generalize rd 64 X.data.toList = B at *
  clear hR hsx hsz
  unfold aL at *
  have k0 := lb0 w K T
  have k1 := lb1 w K T
  have HB0 := Lib.hid ((br w).alloc (Nat.le_refl _) (LB K T))
  by_cases h1 : A.2 = K.size
  · by_cases h2 : B.2 = K.size + T.size
    · rw [if_pos ⟨h1, h2⟩]
      have n1 : ((A.2 : Int) != (K.size : Int)) = false := by simp [h1]
      have n2 : ((B.2 : Int) != (K.size : Int) + (T.size : Int)) = false := by simp; omega
      clear h1 h2
      go_enter Try.func21, Try.ntmps21
      go_wp2_with fail
      refine (C1.out _).mono ?_
      rintro en w1 ⟨v1, rfl, r1, b1⟩
      have B1 := Lib.hid (bt HB0.out b1)
      have c0 := kp b1 k0; have c1 := kp b1 k1
      clear b1 r1 k0 k1
      go_wp2_with fail
      refine (C2.out _).mono ?_
      rintro en w2 ⟨v2, rfl, r2, b2⟩
      have d0 := kp b2 c0; have d1 := kp b2 c1
      have B2 := Lib.hid (bt B1.out b2)
      clear b2 r2 c0 c1
      go_wp2_with fail
      try go_quiet (fail)
      go_wp2
      go_ret
      exact ⟨by first | rfl | (simp; done), by first | exact B2.out | exact bn B2.out _⟩
    · rw [if_neg (fun h => h2 h.2)]
      have n1 : ((A.2 : Int) != (K.size : Int)) = false := by simp [h1]
      have n2 : ((B.2 : Int) != (K.size : Int) + (T.size : Int)) = true := by simp; omega
      clear h1 h2
      go_enter Try.func21, Try.ntmps21
      go_wp2_with fail
      refine (C1.out _).mono ?_
      rintro en w1 ⟨v1, rfl, r1, b1⟩
      have B1 := Lib.hid (bt HB0.out b1)
      have c0 := kp b1 k0; have c1 := kp b1 k1
      clear b1 r1 k0 k1
      go_wp2_with fail
      refine (C2.out _).mono ?_
      rintro en w2 ⟨v2, rfl, r2, b2⟩
      have d0 := kp b2 c0; have d1 := kp b2 c1
      have B2 := Lib.hid (bt B1.out b2)
      clear b2 r2 c0 c1
      go_wp2_with fail
      try go_quiet (fail)
      go_wp2
      go_ret
      exact ⟨by first | rfl | (simp; done), by first | exact B2.out | exact bn B2.out _⟩
  · rw [if_neg (fun h => h1 h.1)]
    have n1 : ((A.2 : Int) != (K.size : Int)) = true := by simp; omega
    clear h1
    go_enter Try.func21, Try.ntmps21
    go_wp2_with fail
    refine (C1.out _).mono ?_
    rintro en w1 ⟨v1, rfl, r1, b1⟩
    have B1 := Lib.hid (bt HB0.out b1)
    have c0 := kp b1 k0; have c1 := kp b1 k1
    clear b1 r1 k0 k1
    go_wp2_with fail
    refine (C2.out _).mono ?_
    rintro en w2 ⟨v2, rfl, r2, b2⟩
    have d0 := kp b2 c0; have d1 := kp b2 c1
    have B2 := Lib.hid (bt B1.out b2)
    clear b2 r2 c0 c1
    go_wp2_with fail
    try go_quiet (fail)
    go_wp2
    go_ret
    exact ⟨by first | rfl | (simp; done), by first | exact B2.out | exact bn B2.out _⟩

set_option maxHeartbeats 2000000 in
theorem itemsR_own (K T : Bs) (hs : K.size + T.size ≤ 1000000000000000) (w : World) : Calls Try.prog 24 #[aL K T] w fun e w' => ∃ v, e = .returned v ∧ ROwn elS w' w.heap.size v (itemsJ K T) ∧ Below w.heap.size w w' := by
  have hsx : (K ++ T).size ≤ 1000000000000000 := by rw [ByteArray.size_append]; omega
  have C2 : RowKit.Hid (∀ w, Calls Try.prog 14 #[.string (K ++ T), .int .i64 64] w (OwnLQ (rd 64 (K ++ T).data.toList) w)) := Lib.hid (fun w => ofR_own 64 (by omega) (K ++ T) (by omega) w)
  have ct1 := fun w => run_string_add_sum (P := Try.prog) (w := w) K T (by omega)
  unfold itemsJ
  generalize K ++ T = X at *
  unfold OwnLQ at C2
  generalize rd 64 X.data.toList = B at *
  unfold aL at *
  have k0 := lb0 w K T
  have k1 := lb1 w K T
  have HB0 := Lib.hid ((br w).alloc (Nat.le_refl _) (LB K T))
  go_enter Try.func24, Try.ntmps24
  go_wp2_with fail
  try go_quiet (fail)
  go_wp2_with fail
  refine (C2.out _).mono ?_
  rintro en w2 ⟨v2, rfl, r2, b2⟩
  have R2 := Lib.hid r2
  have B2 := Lib.hid (show Below w.heap.size w w2 by first | exact bt HB0.out b2 | exact bt (bn HB0.out _) b2)
  clear b2 r2
  go_wp2
  go_ret
  exact ⟨_, rfl, ROwn.base (E := elS) R2.out (by first | (simp; omega) | (show _ ≤ _; simp)), B2.out⟩
theorem itemsR_any (K T : Bs) (hs : K.size + T.size ≤ 1000000000000000) (w : World) : Calls Try.prog 24 #[aL K T] w fun e w' => ∃ v, e = .returned v ∧ RdE elS w' v (itemsJ K T) ∧ Below w.heap.size w w' := (itemsR_own K T hs w).mono (fun _ _ ⟨v, h1, h2, h3⟩ => ⟨v, h1, h2.rd, h3⟩)
theorem framed_cat (T s : Bs) : T ++ framed s = (T ++ mk (bigL s.size 2)) ++ s := by
  apply ba_ext
  unfold framed
  simp only [ByteArray.data_append, Array.toList_append, mk_list, encL, big_hd, List.append_nil, List.append_assoc]
set_option maxHeartbeats 2000000 in
theorem addR_any (K T s : Bs) (hs : K.size + T.size ≤ 500000000000000) (hss : s.size ≤ 9223372036854775807) (w : World) : Calls Try.prog 22 #[aL K T, .string s] w (LogQ (addJ K T s) w) := by
  have C1 := Lib.hid (checkR_any K T (by omega))
  have C2 := Lib.hid (itemsR_any K T (by omega))
  have hR : addJ K T s = if lok K T = true then (if 400 < s.size ∨ (itemsJ K T).length = 64 then (zL, 2) else ((K, T ++ framed s), 0)) else (zL, 1) := rfl
  have hC : chkJ K T = if lok K T = true then 0 else 1 := rfl
  rw [hC] at C1
  rw [hR]
  clear hR hC
  unfold aL at *
  have k0 := lb0 w K T
  have k1 := lb1 w K T
  have HB0 := Lib.hid ((br w).alloc (Nat.le_refl _) (LB K T))
  have HX0 := Lib.hid (Box.new w 34 [.string K, .string T])
  rcases hb : lok K T with _ | _
  · rw [hb, if_neg (by simp)] at C1
    rw [if_neg (by simp)]
    clear hb
    go_enter Try.func22, Try.ntmps22
    go_wp2_with fail
    refine (C1.out _).mono ?_
    rintro en w1 ⟨rfl, b1⟩
    have hl_w1 : Lb w1 (w.heap.size + 1) ⟨#[]⟩ ⟨#[]⟩ := by
      have := Box.new (w.alloc (LB K T)) 34 [.string ⟨#[]⟩, .string ⟨#[]⟩]
      rw [World.size_alloc] at this
      exact this.next b1
    have HL_w1 := Lib.hid hl_w1
    have B1 := Lib.hid (bt (HB0.out.alloc HB0.out.size _) b1)
    have HX1 := Lib.hid ((HX0.out.alloc (.cells #[.string ⟨#[]⟩, .string ⟨#[]⟩] 34)).next b1)
    have x0 := HX1.out.cell 0; have x1 := HX1.out.cell 1
    simp only [List.getElem?_cons_zero, List.getElem?_cons_succ] at x0 x1
    clear b1 hl_w1
    have r0 := HL_w1.out.cell 0; have r1 := HL_w1.out.cell 1; have g0 := HL_w1.out.froz 0; have g1 := HL_w1.out.froz 1
    simp only [List.getElem?_cons_zero, List.getElem?_cons_succ] at r0 r1
    go_wp2_with fail
    have P := Lb.put HL_w1.out ⟨#[]⟩ ⟨#[]⟩
    have Q := below2 B1.out (b := w.heap.size + 1) (by omega) (.string ⟨#[]⟩) (.string ⟨#[]⟩)
    generalize (w1.setCell ⟨w.heap.size + 1, 0, none⟩ (.string ⟨#[]⟩)).setCell ⟨w.heap.size + 1, 1, none⟩ (.string ⟨#[]⟩) = W2 at P Q ⊢
    have y0 := P.cell 0; have y1 := P.cell 1
    simp only [List.getElem?_cons_zero, List.getElem?_cons_succ] at y0 y1
    refine bodyPost_ret (v := .tuple #[.agg #[.string ⟨#[]⟩, .string ⟨#[]⟩], .int .i64 1]) (by simp [results, Try.results22, go_sem, y0, y1]) rfl ⟨rfl, Q⟩
  · rw [hb, if_pos rfl] at C1
    rw [if_pos rfl]
    clear hb
    generalize itemsJ K T = R at *
    by_cases h4 : 400 < s.size
    · rw [if_pos (.inl h4)]
      have h4' : (400 : Int) < (s.size : Int) := by omega
      go_enter Try.func22, Try.ntmps22
      go_wp2_with fail
      refine (C1.out _).mono ?_
      rintro en w1 ⟨rfl, b1⟩
      have hl_w1 : Lb w1 (w.heap.size + 1) ⟨#[]⟩ ⟨#[]⟩ := by
        have := Box.new (w.alloc (LB K T)) 34 [.string ⟨#[]⟩, .string ⟨#[]⟩]
        rw [World.size_alloc] at this
        exact this.next b1
      have HL_w1 := Lib.hid hl_w1
      have B1 := Lib.hid (bt (HB0.out.alloc HB0.out.size _) b1)
      have HX1 := Lib.hid ((HX0.out.alloc (.cells #[.string ⟨#[]⟩, .string ⟨#[]⟩] 34)).next b1)
      have x0 := HX1.out.cell 0; have x1 := HX1.out.cell 1
      simp only [List.getElem?_cons_zero, List.getElem?_cons_succ] at x0 x1
      clear b1 hl_w1
      have r0 := HL_w1.out.cell 0; have r1 := HL_w1.out.cell 1; have g0 := HL_w1.out.froz 0; have g1 := HL_w1.out.froz 1
      simp only [List.getElem?_cons_zero, List.getElem?_cons_succ] at r0 r1
      go_wp2_with fail
      have P := Lb.put HL_w1.out ⟨#[]⟩ ⟨#[]⟩
      have Q := below2 B1.out (b := w.heap.size + 1) (by omega) (.string ⟨#[]⟩) (.string ⟨#[]⟩)
      generalize (w1.setCell ⟨w.heap.size + 1, 0, none⟩ (.string ⟨#[]⟩)).setCell ⟨w.heap.size + 1, 1, none⟩ (.string ⟨#[]⟩) = W2 at P Q ⊢
      have y0 := P.cell 0; have y1 := P.cell 1
      simp only [List.getElem?_cons_zero, List.getElem?_cons_succ] at y0 y1
      refine bodyPost_ret (v := .tuple #[.agg #[.string ⟨#[]⟩, .string ⟨#[]⟩], .int .i64 2]) (by simp [results, Try.results22, go_sem, y0, y1]) rfl ⟨rfl, Q⟩
    · have h4' : ¬ (400 : Int) < (s.size : Int) := by omega
      by_cases h6 : R.length = 64
      · rw [if_pos (.inr h6)]
        have h6' : ((R.length : Int) == 64) = true := by simp [h6]
        clear h6
        go_enter Try.func22, Try.ntmps22
        go_wp2_with fail
        refine (C1.out _).mono ?_
        rintro en w1 ⟨rfl, b1⟩
        have hl_w1 : Lb w1 (w.heap.size + 1) ⟨#[]⟩ ⟨#[]⟩ := by
          have := Box.new (w.alloc (LB K T)) 34 [.string ⟨#[]⟩, .string ⟨#[]⟩]
          rw [World.size_alloc] at this
          exact this.next b1
        have HL_w1 := Lib.hid hl_w1
        have B1 := Lib.hid (bt (HB0.out.alloc HB0.out.size _) b1)
        have HX1 := Lib.hid ((HX0.out.alloc (.cells #[.string ⟨#[]⟩, .string ⟨#[]⟩] 34)).next b1)
        have x0 := HX1.out.cell 0; have x1 := HX1.out.cell 1
        simp only [List.getElem?_cons_zero, List.getElem?_cons_succ] at x0 x1
        clear b1 hl_w1
        go_wp2_with fail
        refine (C2.out _).mono ?_
        rintro en w2 ⟨v2, rfl, r2, b2⟩
        have HL_w2 := Lib.hid (HL_w1.out.next b2)
        have HX2 := Lib.hid (HX1.out.next b2)
        have B2 := Lib.hid (bt B1.out b2)
        obtain ⟨a2, c2, rfl, _, _, _⟩ := r2
        clear b2 x0 x1
        have r0 := HL_w2.out.cell 0; have r1 := HL_w2.out.cell 1; have g0 := HL_w2.out.froz 0; have g1 := HL_w2.out.froz 1
        simp only [List.getElem?_cons_zero, List.getElem?_cons_succ] at r0 r1
        go_wp2_with fail
        have P := Lb.put HL_w2.out ⟨#[]⟩ ⟨#[]⟩
        have Q := below2 B2.out (b := w.heap.size + 1) (by omega) (.string ⟨#[]⟩) (.string ⟨#[]⟩)
        generalize (w2.setCell ⟨w.heap.size + 1, 0, none⟩ (.string ⟨#[]⟩)).setCell ⟨w.heap.size + 1, 1, none⟩ (.string ⟨#[]⟩) = W2 at P Q ⊢
        have y0 := P.cell 0; have y1 := P.cell 1
        simp only [List.getElem?_cons_zero, List.getElem?_cons_succ] at y0 y1
        refine bodyPost_ret (v := .tuple #[.agg #[.string ⟨#[]⟩, .string ⟨#[]⟩], .int .i64 2]) (by simp [results, Try.results22, go_sem, y0, y1]) rfl ⟨rfl, Q⟩
      · rw [if_neg (by omega)]
        have h6' : ((R.length : Int) == 64) = false := by rw [beq_eq_false_iff_ne]; omega
        clear h6
        have c3 : ∀ w, Calls Try.prog 31 #[.int .i64 (s.size : Int), .int .i64 2] w fun e w' => e = .returned (.string (mk (bigL s.size 2))) ∧ Below w.heap.size w w' := fun w => big_any s.size 2 (by omega) (by omega) w
        have C3 := Lib.hid c3
        have hfs : (mk (bigL s.size 2)).size = 2 := by rw [mk_size, bigL_len]
        rw [framed_cat]
        generalize mk (bigL s.size 2) = F at *
        have ct1 := fun w => run_string_add_sum (P := Try.prog) (w := w) T F (by omega)
        have ct2 := fun w => run_string_add_sum (P := Try.prog) (w := w) (T ++ F) s (by rw [ByteArray.size_append]; omega)
        generalize T ++ F = TF at *
        generalize TF ++ s = M at *
        clear hfs c3
        go_enter Try.func22, Try.ntmps22
        go_wp2_with fail
        refine (C1.out _).mono ?_
        rintro en w1 ⟨rfl, b1⟩
        have hl_w1 : Lb w1 (w.heap.size + 1) ⟨#[]⟩ ⟨#[]⟩ := by
          have := Box.new (w.alloc (LB K T)) 34 [.string ⟨#[]⟩, .string ⟨#[]⟩]
          rw [World.size_alloc] at this
          exact this.next b1
        have HL_w1 := Lib.hid hl_w1
        have B1 := Lib.hid (bt (HB0.out.alloc HB0.out.size _) b1)
        have HX1 := Lib.hid ((HX0.out.alloc (.cells #[.string ⟨#[]⟩, .string ⟨#[]⟩] 34)).next b1)
        have x0 := HX1.out.cell 0; have x1 := HX1.out.cell 1
        simp only [List.getElem?_cons_zero, List.getElem?_cons_succ] at x0 x1
        clear b1 hl_w1
        go_wp2_with fail
        refine (C2.out _).mono ?_
        rintro en w2 ⟨v2, rfl, r2, b2⟩
        have HL_w2 := Lib.hid (HL_w1.out.next b2)
        have HX2 := Lib.hid (HX1.out.next b2)
        have B2 := Lib.hid (bt B1.out b2)
        obtain ⟨a2, c2, rfl, _, _, _⟩ := r2
        clear b2 x0 x1
        have x0 := HX2.out.cell 0; have x1 := HX2.out.cell 1
        simp only [List.getElem?_cons_zero, List.getElem?_cons_succ] at x0 x1
        go_wp2_with fail
        go_region_held3 (fun w' => w'.cell? ⟨w.heap.size, 0, none⟩ = some (.string K) ∧ w'.cell? ⟨w.heap.size, 1, none⟩ = some (.string T))
          (first | exact ⟨((HX3.out.other (w.heap.size + 1) 0 (.string K) (by omega)).other (w.heap.size + 1) 1 (.string M) (by omega)).cell 0, ((HX3.out.other (w.heap.size + 1) 0 (.string K) (by omega)).other (w.heap.size + 1) 1 (.string M) (by omega)).cell 1⟩ | (go_split_ands; exact ⟨((HX3.out.other (w.heap.size + 1) 0 (.string K) (by omega)).other (w.heap.size + 1) 1 (.string M) (by omega)).cell 0, ((HX3.out.other (w.heap.size + 1) 0 (.string K) (by omega)).other (w.heap.size + 1) 1 (.string M) (by omega)).cell 1⟩) | exact ⟨HX3.out.cell 0, HX3.out.cell 1⟩ | (go_split_ands; exact ⟨HX3.out.cell 0, HX3.out.cell 1⟩) | go_keep)
          (first | (go_at_call 31; (with_reducible refine (C3.out _).mono ?_); rintro en w3 ⟨rfl, b3⟩; have HL_w3 := Lib.hid (HL_w2.out.next (show Below w2.heap.size w2 w3 from bd (br _) b3)); have HX3 := Lib.hid (HX2.out.next (show Below w2.heap.size w2 w3 from bd (br _) b3)); have B3 := Lib.hid (bt B2.out (show Below w2.heap.size w2 w3 from bd (br _) b3)); have r0 := HL_w3.out.cell 0; have r1 := HL_w3.out.cell 1; have g0 := HL_w3.out.froz 0; have g1 := HL_w3.out.froz 1; simp only [List.getElem?_cons_zero, List.getElem?_cons_succ] at r0 r1))
        go_wp2
        have P := Lb.put HL_w3.out K M
        have Q := below2 B3.out (b := w.heap.size + 1) (by omega) (.string K) (.string M)
        generalize (w3.setCell ⟨w.heap.size + 1, 0, none⟩ (.string K)).setCell ⟨w.heap.size + 1, 1, none⟩ (.string M) = W2 at P Q ⊢
        have y0 := P.cell 0; have y1 := P.cell 1
        simp only [List.getElem?_cons_zero, List.getElem?_cons_succ] at y0 y1
        refine bodyPost_ret (v := .tuple #[.agg #[.string K, .string M], .int .i64 0]) (by simp [results, Try.results22, go_sem, y0, y1]) rfl ⟨rfl, Q⟩
set_option maxHeartbeats 2000000 in
theorem crashR_any (K T : Bs) (k : Int) (hs : K.size + T.size ≤ 1000000000000000) (w : World) : Calls Try.prog 23 #[aL K T, .int .i64 k] w (LogQ (crashJ K T k) w) := by
  have C1 := Lib.hid (checkR_any K T hs)
  have hR : crashJ K T k = if lok K T = true then (if k < 0 ∨ (T.size : Int) < k then (zL, 3) else ((cutJ (K ++ T.extract 0 k.toNat), emptyS), 0)) else (zL, 1) := rfl
  have hC : chkJ K T = if lok K T = true then 0 else 1 := rfl
  rw [hC] at C1
  rw [hR]
  clear hR hC
  unfold aL at *
  have k0 := lb0 w K T
  have k1 := lb1 w K T
  have HB0 := Lib.hid ((br w).alloc (Nat.le_refl _) (LB K T))
  have HX0 := Lib.hid (Box.new w 34 [.string K, .string T])
  rcases hb : lok K T with _ | _
  · rw [hb, if_neg (by simp)] at C1
    rw [if_neg (by simp)]
    clear hb
    go_enter Try.func23, Try.ntmps23
    go_wp2_with fail
    refine (C1.out _).mono ?_
    rintro en w1 ⟨rfl, b1⟩
    have hl_w1 : Lb w1 (w.heap.size + 1) ⟨#[]⟩ ⟨#[]⟩ := by
      have := Box.new (w.alloc (LB K T)) 34 [.string ⟨#[]⟩, .string ⟨#[]⟩]
      rw [World.size_alloc] at this
      exact this.next b1
    have HL_w1 := Lib.hid hl_w1
    have B1 := Lib.hid (bt (HB0.out.alloc HB0.out.size _) b1)
    have HX1 := Lib.hid ((HX0.out.alloc (.cells #[.string ⟨#[]⟩, .string ⟨#[]⟩] 34)).next b1)
    have r0 := HL_w1.out.cell 0; have r1 := HL_w1.out.cell 1; have g0 := HL_w1.out.froz 0; have g1 := HL_w1.out.froz 1
    simp only [List.getElem?_cons_zero, List.getElem?_cons_succ] at r0 r1
    have x0 := HX1.out.cell 0; have x1 := HX1.out.cell 1
    simp only [List.getElem?_cons_zero, List.getElem?_cons_succ] at x0 x1
    clear b1 hl_w1
    go_wp2_with fail
    have P := Lb.put HL_w1.out ⟨#[]⟩ ⟨#[]⟩
    have Q := below2 B1.out (b := w.heap.size + 1) (by omega) (.string ⟨#[]⟩) (.string ⟨#[]⟩)
    generalize (w1.setCell ⟨w.heap.size + 1, 0, none⟩ (.string ⟨#[]⟩)).setCell ⟨w.heap.size + 1, 1, none⟩ (.string ⟨#[]⟩) = W2 at P Q ⊢
    have y0 := P.cell 0; have y1 := P.cell 1
    simp only [List.getElem?_cons_zero, List.getElem?_cons_succ] at y0 y1
    refine bodyPost_ret (v := .tuple #[.agg #[.string ⟨#[]⟩, .string ⟨#[]⟩], .int .i64 1]) (by simp [results, Try.results23, go_sem, y0, y1]) rfl ⟨rfl, Q⟩
  · rw [hb, if_pos rfl] at C1
    rw [if_pos rfl]
    clear hb
    rcases (show k < 0 ∨ (0 ≤ k ∧ (T.size : Int) < k) ∨ (0 ≤ k ∧ k ≤ (T.size : Int)) by omega) with hk | ⟨hk0, hk⟩ | ⟨hk0, hk⟩
    · rw [if_pos (.inl hk)]
      go_enter Try.func23, Try.ntmps23
      go_wp2_with fail
      refine (C1.out _).mono ?_
      rintro en w1 ⟨rfl, b1⟩
      have hl_w1 : Lb w1 (w.heap.size + 1) ⟨#[]⟩ ⟨#[]⟩ := by
        have := Box.new (w.alloc (LB K T)) 34 [.string ⟨#[]⟩, .string ⟨#[]⟩]
        rw [World.size_alloc] at this
        exact this.next b1
      have HL_w1 := Lib.hid hl_w1
      have B1 := Lib.hid (bt (HB0.out.alloc HB0.out.size _) b1)
      have HX1 := Lib.hid ((HX0.out.alloc (.cells #[.string ⟨#[]⟩, .string ⟨#[]⟩] 34)).next b1)
      have r0 := HL_w1.out.cell 0; have r1 := HL_w1.out.cell 1; have g0 := HL_w1.out.froz 0; have g1 := HL_w1.out.froz 1
      simp only [List.getElem?_cons_zero, List.getElem?_cons_succ] at r0 r1
      have x0 := HX1.out.cell 0; have x1 := HX1.out.cell 1
      simp only [List.getElem?_cons_zero, List.getElem?_cons_succ] at x0 x1
      clear b1 hl_w1
      go_wp2_with fail
      have P := Lb.put HL_w1.out ⟨#[]⟩ ⟨#[]⟩
      have Q := below2 B1.out (b := w.heap.size + 1) (by omega) (.string ⟨#[]⟩) (.string ⟨#[]⟩)
      generalize (w1.setCell ⟨w.heap.size + 1, 0, none⟩ (.string ⟨#[]⟩)).setCell ⟨w.heap.size + 1, 1, none⟩ (.string ⟨#[]⟩) = W2 at P Q ⊢
      have y0 := P.cell 0; have y1 := P.cell 1
      simp only [List.getElem?_cons_zero, List.getElem?_cons_succ] at y0 y1
      refine bodyPost_ret (v := .tuple #[.agg #[.string ⟨#[]⟩, .string ⟨#[]⟩], .int .i64 3]) (by simp [results, Try.results23, go_sem, y0, y1]) rfl ⟨rfl, Q⟩
    · rw [if_pos (.inr hk)]
      go_enter Try.func23, Try.ntmps23
      go_wp2_with fail
      refine (C1.out _).mono ?_
      rintro en w1 ⟨rfl, b1⟩
      have hl_w1 : Lb w1 (w.heap.size + 1) ⟨#[]⟩ ⟨#[]⟩ := by
        have := Box.new (w.alloc (LB K T)) 34 [.string ⟨#[]⟩, .string ⟨#[]⟩]
        rw [World.size_alloc] at this
        exact this.next b1
      have HL_w1 := Lib.hid hl_w1
      have B1 := Lib.hid (bt (HB0.out.alloc HB0.out.size _) b1)
      have HX1 := Lib.hid ((HX0.out.alloc (.cells #[.string ⟨#[]⟩, .string ⟨#[]⟩] 34)).next b1)
      have r0 := HL_w1.out.cell 0; have r1 := HL_w1.out.cell 1; have g0 := HL_w1.out.froz 0; have g1 := HL_w1.out.froz 1
      simp only [List.getElem?_cons_zero, List.getElem?_cons_succ] at r0 r1
      have x0 := HX1.out.cell 0; have x1 := HX1.out.cell 1
      simp only [List.getElem?_cons_zero, List.getElem?_cons_succ] at x0 x1
      clear b1 hl_w1
      go_wp2_with fail
      have P := Lb.put HL_w1.out ⟨#[]⟩ ⟨#[]⟩
      have Q := below2 B1.out (b := w.heap.size + 1) (by omega) (.string ⟨#[]⟩) (.string ⟨#[]⟩)
      generalize (w1.setCell ⟨w.heap.size + 1, 0, none⟩ (.string ⟨#[]⟩)).setCell ⟨w.heap.size + 1, 1, none⟩ (.string ⟨#[]⟩) = W2 at P Q ⊢
      have y0 := P.cell 0; have y1 := P.cell 1
      simp only [List.getElem?_cons_zero, List.getElem?_cons_succ] at y0 y1
      refine bodyPost_ret (v := .tuple #[.agg #[.string ⟨#[]⟩, .string ⟨#[]⟩], .int .i64 3]) (by simp [results, Try.results23, go_sem, y0, y1]) rfl ⟨rfl, Q⟩
    · rw [if_neg (by omega)]
      obtain ⟨m, rfl⟩ : ∃ m : Nat, k = (m : Int) := ⟨k.toNat, by omega⟩
      rw [Int.toNat_natCast]
      have hm : m ≤ T.size := by omega
      have hsl : ∀ w, (Instr.slice 9 (.string T) none (some (.int .i64 (m : Int))) none).run Try.prog w = .ok (.string (T.extract 0 m)) w := fun w => by
        have := run_slice_string_h (P := Try.prog) (w := w) 9 T Try.underlying9 .i64 (m : Int) (by omega) (by omega)
        rw [this]; simp
      have hes : (T.extract 0 m).size ≤ T.size := by simp; omega
      have ct1 := fun w => run_string_add_sum (P := Try.prog) (w := w) K (T.extract 0 m) (by omega)
      have hX : (K ++ T.extract 0 m).size ≤ 1000000000000000 := by rw [ByteArray.size_append]; omega
      have C2 := Lib.hid (ofQ_any (K ++ T.extract 0 m) hX)
      have hwr := write_rd 64 (by omega) (K ++ T.extract 0 m)
      have hsm := (rd_was 64 (K ++ T.extract 0 m).data.toList).2.1
      unfold cutJ
      generalize T.extract 0 m = F at *
      generalize K ++ F = X at *
      unfold ListQ at C2
      obtain ⟨R, hRR⟩ : ∃ R, rd 64 X.data.toList = R := ⟨_, rfl⟩
      rw [hRR] at hwr hsm ⊢
      simp only [hRR] at C2
      have C3 : RowKit.Hid (∀ v w, RdE elS w v R.1 → Calls Try.prog 13 #[v] w (TextQ (X.extract 0 R.2, 0) w)) := Lib.hid (fun v w h => by have := textR_any v R.1 w h (fun s hs => by have := hsm s hs; omega); rw [hwr] at this; exact this)
      generalize X.extract 0 R.2 = Y at *
      clear hX hes hwr hsm hRR
      go_enter Try.func23, Try.ntmps23
      go_wp2_with fail
      refine (C1.out _).mono ?_
      rintro en w1 ⟨rfl, b1⟩
      have hl_w1 : Lb w1 (w.heap.size + 1) ⟨#[]⟩ ⟨#[]⟩ := by
        have := Box.new (w.alloc (LB K T)) 34 [.string ⟨#[]⟩, .string ⟨#[]⟩]
        rw [World.size_alloc] at this
        exact this.next b1
      have HL_w1 := Lib.hid hl_w1
      have B1 := Lib.hid (bt (HB0.out.alloc HB0.out.size _) b1)
      have HX1 := Lib.hid ((HX0.out.alloc (.cells #[.string ⟨#[]⟩, .string ⟨#[]⟩] 34)).next b1)
      have r0 := HL_w1.out.cell 0; have r1 := HL_w1.out.cell 1; have g0 := HL_w1.out.froz 0; have g1 := HL_w1.out.froz 1
      simp only [List.getElem?_cons_zero, List.getElem?_cons_succ] at r0 r1
      have x0 := HX1.out.cell 0; have x1 := HX1.out.cell 1
      simp only [List.getElem?_cons_zero, List.getElem?_cons_succ] at x0 x1
      clear b1 hl_w1
      go_wp2_with fail
      go_region_held3 (fun w' => w'.cell? ⟨w.heap.size, 0, none⟩ = some (.string K) ∧ w'.cell? ⟨w.heap.size, 1, none⟩ = some (.string T)) (first | exact ⟨kp b2 x0, kp b2 x1⟩ | (go_split_ands; exact ⟨kp b2 x0, kp b2 x1⟩) | go_keep)
        (first | (go_at_call 14; (with_reducible refine (C2.out _).mono ?_); rintro en w2 ⟨v2, rfl, r2, b2⟩))
      have b2d : Below w1.heap.size w1 w2 := bd (br _) b2
      have HL_w2 := Lib.hid (HL_w1.out.next b2d)
      have B2 := Lib.hid (bt B1.out b2d)
      have R2 := Lib.hid r2
      clear b2 b2d r2 r0 r1 g0 g1 x0 x1
      go_wp2_with fail
      refine (C3.out _ _ R2.out).mono ?_
      rintro en w3 ⟨rfl, b3⟩
      have HL_w3 := Lib.hid (HL_w2.out.next b3)
      have B3 := Lib.hid (bt B2.out b3)
      clear b3
      have r0 := HL_w3.out.cell 0; have r1 := HL_w3.out.cell 1; have g0 := HL_w3.out.froz 0; have g1 := HL_w3.out.froz 1
      simp only [List.getElem?_cons_zero, List.getElem?_cons_succ] at r0 r1
      go_wp2_with fail
      have P := Lb.put HL_w3.out Y ⟨#[]⟩
      have Q := below2 B3.out (b := w.heap.size + 1) (by omega) (.string Y) (.string ⟨#[]⟩)
      generalize (w3.setCell ⟨w.heap.size + 1, 0, none⟩ (.string Y)).setCell ⟨w.heap.size + 1, 1, none⟩ (.string ⟨#[]⟩) = W2 at P Q ⊢
      have y0 := P.cell 0; have y1 := P.cell 1
      simp only [List.getElem?_cons_zero, List.getElem?_cons_succ] at y0 y1
      refine bodyPost_ret (v := .tuple #[.agg #[.string Y, .string ⟨#[]⟩], .int .i64 0]) (by simp [results, Try.results23, go_sem, y0, y1]) rfl ⟨rfl, Q⟩
end Jr
end Go.Proofs.Ytlpefkbgdbiinaa
