/- Journals: the law on what a crash leaves. -/
import Derived.Test.YtlpefkbgdbiinaaJournalAdds
set_option linter.unusedVariables false
namespace Go.Proofs.Ytlpefkbgdbiinaa
open Go.RowKit
namespace Jr
open Fr
theorem lok_size {K T : Bs} (h : lok K T = true) : K.size + T.size ≤ 25728 := by
  have hk : wholeB (K ++ T) = true := by unfold lok at h; simp at h; exact h.2
  obtain ⟨h1, h2, h3⟩ := whole_is hk
  have hl := encL_len _ h3
  have he : (K ++ T).data.toList.length = K.size + T.size := by
    show (K ++ T).size = _
    exact ByteArray.size_append
  rw [← h1] at hl
  omega
set_option maxHeartbeats 4000000 in
theorem kept_bad (K T : Bs) (k e : Int) (v : Value) (w : World) (he : e ≠ 0)
    (C1 : RowKit.Hid (∀ w, Calls Try.prog 19 #[aL K T] w (LogQ ((emptyS, emptyS), e) w))) :
    Calls Try.prog 8 #[aL K T, v, .int .i64 k] w (TrueQ w) := by
  have CB := Lib.hid begun_any
  have hb : (e != 0) = true := by simp [he]
  have hem : emptyS.toList = [] := by rw [ByteArray.toList_eq]; rfl
  unfold aL at *
  have HX0 := Lib.hid (Box.new w 34 [.string K, .string T])
  have HB0 := Lib.hid ((br w).alloc (Nat.le_refl _) (LB K T))
  clear he
  go_enter Try.func8, Try.ntmps8
  go_wp2_with fail
  refine (CB.out _).mono ?_
  rintro en w1 ⟨rfl, b1⟩
  have B1 := Lib.hid (bt HB0.out b1)
  have HX1 := Lib.hid (HX0.out.next b1)
  clear b1
  have c0 := HX1.out.cell 0; have c1 := HX1.out.cell 1
  simp only [List.getElem?_cons_zero, List.getElem?_cons_succ] at c0 c1
  go_wp2_with fail
  refine (C1.out _).mono ?_
  rintro en w3 ⟨rfl, b3⟩
  have B3 := Lib.hid ((bt B1.out b3).alloc (bt B1.out b3).size (LB emptyS emptyS))
  clear b3
  go_wp2_with fail
  go_ret
  exact ⟨by first | rfl | (simp; done), B3.out⟩
set_option maxHeartbeats 8000000 in
theorem kept_core (K T X : Bs) (k : Int) (v : Value) (xs : List Bs) (w : World) (h : RdE elS w v xs) (hz : ∀ s ∈ xs, s.size ≤ 9223372036854775807) (hX : lok X emptyS = true)
    (C1 : RowKit.Hid (∀ w, Calls Try.prog 19 #[aL K T] w (LogQ ((X, emptyS), 0) w)))
    (C2 : RowKit.Hid (∀ w, Calls Try.prog 17 #[aL X emptyS] w (ItemsQ (itemsJ X emptyS, 0) w))) :
    Calls Try.prog 8 #[aL K T, v, .int .i64 k] w (TrueQ w) := by
  have CB := Lib.hid begun_any
  have hem : emptyS.toList = [] := by rw [ByteArray.toList_eq]; rfl
  have hle := h.len_le
  obtain ⟨ad, cap, rfl, h1, h2, h3⟩ := h
  have H3 := Lib.hid h3; clear h3
  have HZ := Lib.hid hz; clear hz
  have HXL := Lib.hid hX; clear hX
  obtain ⟨WAS, hWAS⟩ : ∃ WAS, itemsJ X emptyS = WAS := ⟨_, rfl⟩
  rw [hWAS] at C2
  have HWAS := Lib.hid hWAS; clear hWAS
  unfold aL at *
  have HX0 := Lib.hid (Box.new w 34 [.string K, .string T])
  have HB0 := Lib.hid ((br w).alloc (Nat.le_refl _) (LB K T))
  go_enter Try.func8, Try.ntmps8
  go_wp2_with fail
  refine (CB.out _).mono ?_
  rintro en w1 ⟨rfl, b1⟩
  have B1 := Lib.hid (bt HB0.out b1)
  have HX1 := Lib.hid (HX0.out.next b1)
  clear b1
  have c0 := HX1.out.cell 0; have c1 := HX1.out.cell 1
  simp only [List.getElem?_cons_zero, List.getElem?_cons_succ] at c0 c1
  go_wp2_with fail
  refine (C1.out _).mono ?_
  rintro en w2 ⟨rfl, b2⟩
  have B2 := Lib.hid ((bt B1.out b2).alloc (bt B1.out b2).size (LB X emptyS))
  have HA2 := Lib.hid (Box.new w2 34 [.string X, .string emptyS])
  clear b2 c0 c1
  go_wp2_with fail
  refine (C2.out _).mono ?_
  rintro en w3 ⟨v3, rfl, r3, b3⟩
  have B3 := Lib.hid (bt B2.out b3)
  have HA3 := Lib.hid (HA2.out.next b3)
  have R3 := Lib.hid r3
  clear b3 r3
  have c0 := HA3.out.cell 0; have c1 := HA3.out.cell 1
  simp only [List.getElem?_cons_zero, List.getElem?_cons_succ] at c0 c1
  go_wp2_with fail
  have HB3a := Lib.hid (B3.out.alloc B3.out.size (LB X emptyS))
  have HW3 := Lib.hid ((br w3).alloc (Nat.le_refl _) (LB X emptyS))
  have HN3 := Lib.hid (Box.new w3 34 [.string X, .string emptyS])
  clear c0 c1
  go_loopw [12] (fun i wr => ∃ (j : Nat) (T' : Bs), j ≤ xs.length ∧ i = .int .i64 j ∧ RowKit.Hid (lok X T' = true) ∧ Lb wr w3.heap.size X T' ∧ Below w3.heap.size w3 wr ∧ Below w.heap.size w wr) (fun i _ => xs.length - (intOf i).toNat)
  case atStart => exact ⟨0, emptyS, Nat.zero_le _, rfl, HXL, HN3.out, HW3.out, HB3a.out⟩
  case round =>
    obtain ⟨j, T', hj, rfl, HL, hbx, hw3, hbw⟩ := hrel
    have hsz := lok_size HL.out
    have HSZ := Lib.hid hsz
    clear HN3 HB3a HW3
    have HBX := Lib.hid hbx; have HW3 := Lib.hid hw3; have HBW := Lib.hid hbw
    by_cases hlt : j < xs.length
    · obtain ⟨g, off, rfl, hbl, hc⟩ := H3.out (by omega)
      have d0 := (hbw.cell (p := ⟨g, off + j, none⟩) hbl).trans (eS_at hc j hlt)
      have i1 : (j : Int) < (xs.length : Int) := by omega
      have i0 : (0 : Int) ≤ (j : Int) := by omega
      have CA := add_any X T' xs[j] (by omega) (HZ.out _ (List.getElem_mem hlt))
      have HCS := add_cases X T' xs[j]
      have hla : lok X T' = true → xs[j].size ≤ 400 → (itemsJ X T').length ≠ 64 → lok X (T' ++ framed xs[j]) = true := fun h2 h3 h4 => (lok_add h2 h3 h4).1
      have c0 := hbx.cell 0; have c1 := hbx.cell 1
      simp only [List.getElem?_cons_zero, List.getElem?_cons_succ] at c0 c1
      clear hc H3 HZ hbx hw3 hbw hsz
      have hlw : w3.heap.size < wr.heap.size := HBX.out.lt
      generalize xs[j] = t at *
      obtain ⟨N1, N2, E, hN⟩ : ∃ N1 N2 E, addJ X T' t = ((N1, N2), E) := ⟨_, _, _, rfl⟩
      rw [hN] at CA HCS
      have CA := Lib.hid CA
      have HC0 := Lib.hid c0; have HC1 := Lib.hid c1; have HD0 := Lib.hid d0
      have HCS := Lib.hid HCS
      have HLA := Lib.hid hla
      clear hN hla
      unfold aL at CA
      go_wp2_with fail
      go_region_held3 (fun w' => w'.cell? ⟨w3.heap.size, 0, none⟩ = some (.string X) ∧ w'.cell? ⟨w3.heap.size, 1, none⟩ = some (.string T') ∧ w'.cell? ⟨g, off + j, none⟩ = some (.string t))
        (first | go_keep | (go_split_ands; (repeat' apply And.intro) <;> first | assumption | exact kp ((hWB.out.setCell (p := ⟨wr.heap.size, 0, none⟩) (Nat.le_refl _) _).setCell (p := ⟨wr.heap.size, 1, none⟩) (Nat.le_refl _) _) HC0.out | exact kp ((hWB.out.setCell (p := ⟨wr.heap.size, 0, none⟩) (Nat.le_refl _) _).setCell (p := ⟨wr.heap.size, 1, none⟩) (Nat.le_refl _) _) HC1.out | exact kp ((hWB.out.setCell (p := ⟨wr.heap.size, 0, none⟩) (Nat.le_refl _) _).setCell (p := ⟨wr.heap.size, 1, none⟩) (Nat.le_refl _) _) HD0.out | exact kp (hWB.out.alloc hWB.out.size _) HC0.out | exact kp (hWB.out.alloc hWB.out.size _) HC1.out | exact kp (hWB.out.alloc hWB.out.size _) HD0.out | exact kp hWB.out HC0.out | exact kp hWB.out HC1.out | exact kp hWB.out HD0.out))
        (first
          | (go_at_call 18; (with_reducible refine (CA.out _).mono ?_); rintro en w5 ⟨rfl, b5⟩;
             first
              | (have hbZ : Below (wr.alloc (LB ⟨#[]⟩ ⟨#[]⟩)).heap.size (wr.alloc (LB ⟨#[]⟩ ⟨#[]⟩)) w5 := bd (br _) b5; have hWB := Lib.hid (bt ((br wr).alloc (Nat.le_refl _) _) hbZ); have HN := Lib.hid ((Box.new wr 34 [.string ⟨#[]⟩, .string ⟨#[]⟩]).next hbZ); have x0 := HN.out.cell 0; have x1 := HN.out.cell 1; have y0 := HN.out.froz 0; have y1 := HN.out.froz 1; simp only [List.getElem?_cons_zero, List.getElem?_cons_succ] at x0 x1; clear hbZ)
              | (have hWB := Lib.hid (show Below wr.heap.size wr w5 from bd (br wr) b5))))
      all_goals
        first
          | (have SB := Lib.hid (Lb.put HN.out N1 N2); have HWX := Lib.hid (below2 hWB.out (b := wr.heap.size) (Nat.le_refl _) (.string N1) (.string N2)); generalize (w5.setCell ⟨wr.heap.size, 0, none⟩ (.string N1)).setCell ⟨wr.heap.size, 1, none⟩ (.string N2) = wx at *)
          | (have SB := Lib.hid (Box.new w5 34 [.string N1, .string N2]); have HWX := Lib.hid (hWB.out.alloc hWB.out.size (.cells #[.string N1, .string N2] 34)); generalize w5.alloc (.cells #[.string N1, .string N2] 34) = wx at *)
      all_goals
        have s0 := SB.out.cell 0; have s1 := SB.out.cell 1
        have HB2 := Lib.hid (HBX.out.next HWX.out)
        have HW3x := Lib.hid (bt HW3.out HWX.out)
        have HBWx := Lib.hid (HBW.out.trans (HWX.out.mono HBW.out.size))
        clear c0 c1 d0
        have c0 := HB2.out.cell 0; have c1 := HB2.out.cell 1; have f0 := HB2.out.froz 0; have f1 := HB2.out.froz 1
        simp only [List.getElem?_cons_zero, List.getElem?_cons_succ] at s0 s1 c0 c1
        have hsz3 := B3.out.size
        rename_i hHeld
        clear hHeld
        rcases HCS.out with ⟨he, h2, h3, h4⟩ | ⟨e, he, hne⟩
        · simp only [Prod.mk.injEq] at he
          obtain ⟨⟨rfl, rfl⟩, rfl⟩ := he
          have HLN := Lib.hid (HLA.out h2 h3 h4)
          clear HCS HLA CA h2 h3 h4
          generalize T' ++ framed t = T2 at *
          have HP := Lib.hid (Lb.put HB2.out N1 T2)
          go_wp2
          go_roundw
          case rel => exact ⟨j + 1, T2, by omega, by go_num, HLN, HP.out, below2 HW3x.out (Nat.le_refl _) _ _, below2 HBWx.out hsz3 _ _⟩
          case measure => simp [intOf]; omega
        · simp only [Prod.mk.injEq] at he
          obtain ⟨⟨rfl, rfl⟩, rfl⟩ := he
          have hne' : (E == 0) = false := by rw [beq_eq_false_iff_ne]; exact hne
          clear HCS HLA CA hne
          go_wp2
          go_roundw
          case rel => exact ⟨j + 1, T', by omega, by go_num, HL, HB2.out, HW3x.out, HBWx.out⟩
          case measure => simp [intOf]; omega
    · have hxt := HL.out
      have C3 := items_any X T' (by omega)
      rw [itemsF_ok hxt] at C3
      have hCR := crash_any X T' k (by omega)
      have hcases := crash_cases X T' k
      have c0 := hbx.cell 0; have c1 := hbx.cell 1
      simp only [List.getElem?_cons_zero, List.getElem?_cons_succ] at c0 c1
      have HR3 := Lib.hid (R3.out.below hw3)
      clear hbx hw3 hbw H3 HZ
      unfold aL at C3 hCR
      have C3 := Lib.hid C3
      rcases hcases with ⟨A, h1', h2', h3', h4', h5', h6'⟩ | ⟨e, he, hne⟩
      · rw [h1'] at hCR
        have hCR := Lib.hid hCR
        obtain ⟨m, rfl⟩ : ∃ m : Nat, k = (m : Int) := ⟨k.toNat, by omega⟩
        rw [Int.toNat_natCast] at h5'
        have hm : m ≤ T'.size := by omega
        obtain ⟨i, i1', i2', i3', i4', i5'⟩ := crash_kept hxt m hm
        rw [← h5'] at i2' i4'
        have C5 := items_any A emptyS (by have : emptyS.size = 0 := rfl; omega)
        rw [itemsF_ok (lok_one (by rw [h5']; exact cut_whole _)), i2'] at C5
        rw [HWAS.out] at i3' i4'
        rw [i2'] at i4'
        unfold aL at C5
        have C5 := Lib.hid C5
        have hil : ((itemsJ X T').take i).length = i := by rw [List.length_take]; omega
        have h64 := items_len X T'
        clear h1' h2' h5' h6' hxt i2'
        generalize itemsJ X T' = HAD at *
        have I4 := Lib.hid i4'
        have HIL := Lib.hid hil
        have S1 := fun v u => Lib.hid (same_self (HAD.take i) v u)
        have S2 := fun v u => Lib.hid (same_self WAS v u)
        clear i4' hil
        go_wp2_with fail
        refine (C3.out _).mono ?_
        rintro en w5 ⟨v5, rfl, r5, b5⟩
        have HB5 := Lib.hid (HBW.out.trans (b5.mono HBW.out.size))
        have R5 := Lib.hid r5
        have HR5 := Lib.hid (HR3.out.below b5)
        have HX5 := Lib.hid (HBX.out.next b5)
        clear b5 r5 c0 c1
        have c0 := HX5.out.cell 0; have c1 := HX5.out.cell 1
        simp only [List.getElem?_cons_zero, List.getElem?_cons_succ] at c0 c1
        go_wp2_with fail
        refine (hCR.out _).mono ?_
        rintro en w6 ⟨rfl, b6⟩
        have hal := (br w6).alloc (Nat.le_refl _) (LB A emptyS)
        have HB6 := Lib.hid (bt (bt HB5.out b6) hal)
        have R6 := Lib.hid ((R5.out.below b6).below hal)
        have HR6 := Lib.hid ((HR5.out.below b6).below hal)
        have HX6 := Lib.hid ((HX5.out.next b6).alloc (LB A emptyS))
        have HC6 := Lib.hid (Box.new w6 34 [.string A, .string emptyS])
        clear b6 c0 c1 hal
        go_wp2_with fail
        refine (C5.out _).mono ?_
        rintro en w7 ⟨v7, rfl, r7, b7⟩
        have HB7 := Lib.hid (bt HB6.out b7)
        have R7h := Lib.hid (R6.out.below b7)
        have HR7 := Lib.hid (HR6.out.below b7)
        have HX7 := Lib.hid (HX6.out.next b7)
        have HC7 := Lib.hid (HC6.out.next b7)
        have R7 := Lib.hid r7
        clear b7 r7
        obtain ⟨a7, c7, e7, g71, g72, _⟩ := R7.out
        subst e7
        obtain ⟨a5, c5, e5, g51, g52, _⟩ := R7h.out
        subst e5
        obtain ⟨a3, c3, e3, g31, g32, _⟩ := HR7.out
        subst e3
        have hp1 := rd_pre R7h.out i i1'
        have hr7 := R7.out
        simp only [HIL.out] at hr7 g71
        have hp2 := rd_pre (a := a7) (n := i) (cap := c7) (xs := HAD.take i) (by simpa only [HIL.out] using R7.out) WAS.length (by rw [HIL.out]; exact i3')
        rw [I4.out] at hp2
        have HP1 := Lib.hid hp1; have HP2 := Lib.hid hp2; have HR7i := Lib.hid hr7
        clear hp1 hp2 hr7
        have c0 := HC7.out.cell 0; have c1 := HC7.out.cell 1
        have x0 := HX7.out.cell 0; have x1 := HX7.out.cell 1
        simp only [List.getElem?_cons_zero, List.getElem?_cons_succ] at c0 c1 x0 x1
        simp only [HIL.out]
        have n1 : (WAS.length : Int) ≤ (i : Int) := by omega
        have n2 : (i : Int) ≤ (HAD.length : Int) := by omega
        go_wp2_with fail
        refine ((S1 _ _).out _ HR7i.out HP1.out).mono ?_
        rintro en w8 ⟨rfl, b8⟩
        have HB8 := Lib.hid (bt HB7.out b8)
        have HX8 := Lib.hid (HX7.out.next b8)
        have P2 := Lib.hid (HP2.out.below b8)
        have P3 := Lib.hid (HR7.out.below b8)
        clear b8
        go_wp2_with fail
        refine ((S2 _ _).out _ P2.out P3.out).mono ?_
        rintro en w9 ⟨rfl, b9⟩
        have HB9 := Lib.hid (bt HB8.out b9)
        have HX9 := Lib.hid (HX8.out.next b9)
        clear b9 c0 c1 x0 x1
        have x0 := HX9.out.cell 0; have x1 := HX9.out.cell 1
        simp only [List.getElem?_cons_zero, List.getElem?_cons_succ] at x0 x1
        by_cases hmt : m = T'.size
        · have hi := i5' hmt
          have q1 : ¬ (m : Int) < (T'.size : Int) := by omega
          have q2 : ((i : Int) == (HAD.length : Int)) = true := by simp [hi]
          clear hmt hi i5'
          go_wp2_with fail
          try go_quiet (fail)
          go_wp2
          go_ret
          exact ⟨by first | rfl | (simp; done), by first | exact HB9.out | exact bn HB9.out _⟩
        · have q1 : (m : Int) < (T'.size : Int) := by omega
          clear hmt i5'
          go_wp2_with fail
          try go_quiet (fail)
          go_wp2
          go_ret
          exact ⟨by first | rfl | (simp; done), by first | exact HB9.out | exact bn HB9.out _⟩
      · rw [he] at hCR
        have hb : (e != 0) = true := by simp [hne]
        have hCR : RowKit.Hid (∀ w, Calls Try.prog 20 #[.agg #[.string X, .string T'], .int .i64 k] w (LogQ ((emptyS, emptyS), e) w)) := Lib.hid hCR
        clear he hne
        generalize itemsJ X T' = HAD at *
        go_wp2_with fail
        refine (C3.out _).mono ?_
        rintro en w5 ⟨v5, rfl, r5, b5⟩
        have HB5 := Lib.hid (HBW.out.trans (b5.mono HBW.out.size))
        have HX5 := Lib.hid (HBX.out.next b5)
        clear b5 r5 c0 c1
        have c0 := HX5.out.cell 0; have c1 := HX5.out.cell 1
        simp only [List.getElem?_cons_zero, List.getElem?_cons_succ] at c0 c1
        go_wp2_with fail
        refine (hCR.out _).mono ?_
        rintro en w6 ⟨rfl, b6⟩
        have HB6 := Lib.hid ((bt HB5.out b6).alloc (bt HB5.out b6).size (LB emptyS emptyS))
        clear b6 c0 c1
        go_wp2_with fail
        go_ret
        exact ⟨by first | rfl | (simp; done), HB6.out⟩
theorem kept_end (x : Lg) (v : Value) (xs : List Bs) (k : Int) (w : World) (hx : x.1.size ≤ 140737488351232 ∧ x.2.size ≤ 140737488351232) (h : RdS w v xs) (_ : (Lit.int .i64 k).wf = true) : Calls Try.prog 8 #[aL x.1 x.2, v, .int .i64 k] w (TrueQ w) := by
  obtain ⟨K, T⟩ := x
  simp only at hx
  have c1 := sync_any K T (by omega)
  by_cases hl : lok K T = true
  · rw [syncJ_ok hl] at c1
    obtain ⟨f1, f2⟩ := lok_sync hl
    have hz := lok_size hl
    have c2 := items_any (K ++ T) emptyS (by have : emptyS.size = 0 := rfl; rw [ByteArray.size_append]; omega)
    rw [itemsF_ok f1] at c2
    exact kept_core K T (K ++ T) k v xs w h.1 h.siz f1 (Lib.hid c1) (Lib.hid c2)
  · have hS : syncJ K T = ((emptyS, emptyS), 1) := by unfold syncJ; rw [if_neg hl]; rfl
    rw [hS] at c1
    exact kept_bad K T k 1 v w (by decide) (Lib.hid c1)
end Jr
end Go.Proofs.Ytlpefkbgdbiinaa
