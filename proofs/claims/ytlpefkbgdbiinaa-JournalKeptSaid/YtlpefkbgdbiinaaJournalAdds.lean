/- Journals: the law on what is added. -/
import Derived.Test.YtlpefkbgdbiinaaJournalAgain
set_option linter.unusedVariables false
namespace Go.Proofs.Ytlpefkbgdbiinaa
open Go.RowKit
namespace Jr
open Fr
set_option maxHeartbeats 4000000 in
theorem adds_bad (K T s : Bs) (e : Int) (w : World) (he : e ≠ 0)
    (C1 : RowKit.Hid (∀ w, Calls Try.prog 18 #[aL K T, .string s] w (LogQ ((emptyS, emptyS), e) w))) :
    Calls Try.prog 10 #[aL K T, .string s] w (TrueQ w) := by
  have CB := Lib.hid begun_any
  have hb : (e != 0) = true := by simp [he]
  have hem : emptyS.toList = [] := by rw [ByteArray.toList_eq]; rfl
  unfold aL at *
  have HB0 := Lib.hid ((br w).alloc (Nat.le_refl _) (LB K T))
  clear he
  go_enter Try.func10, Try.ntmps10
  go_wp2_with fail
  refine (C1.out _).mono ?_
  rintro en w1 ⟨rfl, b1⟩
  have B1 := Lib.hid (bt HB0.out b1)
  clear b1
  go_wp2_with fail
  refine (CB.out _).mono ?_
  rintro en w3 ⟨rfl, b3⟩
  have B3 := Lib.hid (bt (B1.out.alloc B1.out.size (LB emptyS emptyS)) b3)
  have HA3 := Lib.hid ((Box.new w1 34 [.string emptyS, .string emptyS]).next b3)
  clear b3
  have c0 := HA3.out.cell 0; have c1 := HA3.out.cell 1
  simp only [List.getElem?_cons_zero, List.getElem?_cons_succ] at c0 c1
  go_wp2_with fail
  go_ret
  exact ⟨by first | rfl | (simp; done), B3.out⟩
set_option maxHeartbeats 4000000 in
theorem adds_core (K T s T2 KT : Bs) (X : List Bs) (w : World) (hX : X.length ≤ 64)
    (C1 : RowKit.Hid (∀ w, Calls Try.prog 18 #[aL K T, .string s] w (LogQ ((K, T2), 0) w)))
    (C2 : RowKit.Hid (∀ w, Calls Try.prog 17 #[aL K T] w (ItemsQ (X, 0) w)))
    (C3 : RowKit.Hid (∀ w, Calls Try.prog 17 #[aL K T2] w (ItemsQ (X ++ [s], 0) w)))
    (C4 : RowKit.Hid (∀ w, Calls Try.prog 19 #[aL K T2] w (LogQ ((KT, emptyS), 0) w)))
    (C5 : RowKit.Hid (∀ w, Calls Try.prog 17 #[aL KT emptyS] w (ItemsQ (X ++ [s], 0) w))) :
    Calls Try.prog 10 #[aL K T, .string s] w (TrueQ w) := by
  have CB := Lib.hid begun_any
  have hKK : (K.toList == K.toList) = true := by simp
  have CS := fun v u => Lib.hid (same_self (X ++ [s]) v u)
  unfold aL at *
  have HX0 := Lib.hid (Box.new w 34 [.string K, .string T])
  have HB0 := Lib.hid ((br w).alloc (Nat.le_refl _) (LB K T))
  go_enter Try.func10, Try.ntmps10
  go_wp2_with fail
  refine (C1.out _).mono ?_
  rintro en w1 ⟨rfl, b1⟩
  have B1 := Lib.hid (bt HB0.out b1)
  have HX1 := Lib.hid ((HX0.out.next b1).alloc (LB K T2))
  clear b1
  go_wp2_with fail
  refine (CB.out _).mono ?_
  rintro en w2 ⟨rfl, b2⟩
  have B2 := Lib.hid (bt (B1.out.alloc B1.out.size (LB K T2)) b2)
  have HX2 := Lib.hid (HX1.out.next b2)
  have HA2 := Lib.hid ((Box.new w1 34 [.string K, .string T2]).next b2)
  clear b2
  have c0 := HX2.out.cell 0; have c1 := HX2.out.cell 1
  have d0 := HA2.out.cell 0; have d1 := HA2.out.cell 1
  simp only [List.getElem?_cons_zero, List.getElem?_cons_succ] at c0 c1 d0 d1
  go_wp2_with fail
  refine (C2.out _).mono ?_
  rintro en w3 ⟨v3, rfl, r3, b3⟩
  have B3 := Lib.hid (bt B2.out b3)
  have HX3 := Lib.hid (HX2.out.next b3)
  have HA3 := Lib.hid (HA2.out.next b3)
  have R3 := Lib.hid r3
  clear b3 r3 c0 c1 d0 d1
  have d0 := HA3.out.cell 0; have d1 := HA3.out.cell 1
  simp only [List.getElem?_cons_zero, List.getElem?_cons_succ] at d0 d1
  go_wp2_with fail
  refine (C3.out _).mono ?_
  rintro en w4 ⟨v4, rfl, r4, b4⟩
  have B4 := Lib.hid (bt B3.out b4)
  have HX4 := Lib.hid (HX3.out.next b4)
  have HA4 := Lib.hid (HA3.out.next b4)
  have R4 := Lib.hid r4
  have R34 := Lib.hid (R3.out.below b4)
  clear b4 r4 d0 d1
  have d0 := HA4.out.cell 0; have d1 := HA4.out.cell 1
  simp only [List.getElem?_cons_zero, List.getElem?_cons_succ] at d0 d1
  go_wp2_with fail
  refine (C4.out _).mono ?_
  rintro en w5 ⟨rfl, b5⟩
  have B5 := Lib.hid (bt B4.out b5)
  have HX5 := Lib.hid ((HX4.out.next b5).alloc (LB KT emptyS))
  have HA5 := Lib.hid ((HA4.out.next b5).alloc (LB KT emptyS))
  have hal := (br w5).alloc (Nat.le_refl _) (LB KT emptyS)
  have R35 := Lib.hid ((R34.out.below b5).below hal)
  have R45 := Lib.hid ((R4.out.below b5).below hal)
  have B5a := Lib.hid (B5.out.alloc B5.out.size (LB KT emptyS))
  clear b5 d0 d1 hal
  go_wp2_with fail
  refine (C5.out _).mono ?_
  rintro en w6 ⟨v6, rfl, r6, b6⟩
  have B6 := Lib.hid (bt B5a.out b6)
  have HX6 := Lib.hid (HX5.out.next b6)
  have HA6 := Lib.hid (HA5.out.next b6)
  have R6 := Lib.hid r6
  have R36 := Lib.hid (R35.out.below b6)
  have R46 := Lib.hid (R45.out.below b6)
  clear b6 r6
  obtain ⟨a3, c3, rfl, _, _, _⟩ := R36.out
  have L0 := Lib.hid (ROwn.lit0 (E := elS) w6 w6.heap.size w6.heap.size rfl (Nat.le_refl _))
  have hal := (br w6).alloc (Nat.le_refl _) (.cells #[] 9)
  have HAL := Lib.hid hal
  have R7x := Lib.hid (R36.out.below hal)
  have hxl : X.length ≤ 64 := hX
  clear hal R3 R34 R35 R36 R4 R45
  go_wp2_with (first | (at_builtin; refine appE_g (o := ⟨some 66, _, _, _, _, _⟩) elS (by rfl) (.tmp 64) (.tmp 65) rfl w6.heap.size _ [] rfl L0.out _ X rfl R7x.out (by unfold maxLen; simp; omega) (by show _ * 16 ≤ _; simp; omega) HAL.out.size ?_; intro v7 w7 hown1 hb7 hfar7; have HO1 := Lib.hid (hown1.next ((br w7).alloc (Nat.le_refl _) (.cells #[.string s] 9))); have HB7 := Lib.hid ((HAL.out.trans hb7).alloc (HAL.out.trans hb7).size (.cells #[.string s] 9)); have L1 := Lib.hid (litS [s] w7 (by unfold maxLen; simp)); clear hown1 hfar7 hb7) | (at_builtin; refine appE_g (o := ⟨some 69, _, _, _, _, _⟩) elS (by rfl) (.tmp 66) (.tmp 68) rfl w6.heap.size _ ([] ++ X) rfl HO1.out _ [s] rfl L1.out (by unfold maxLen; simp; omega) (by show _ * 16 ≤ _; simp; omega) HB7.out.size ?_; intro v8 w8 hown2 hb8 hfar8; have HO2 := Lib.hid hown2; have HB8 := Lib.hid (HB7.out.trans hb8); clear hown2 hfar8 hb8))
  refine ((CS _ _).out _ (R46.out.below HB8.out) HO2.out.rd).mono ?_
  rintro en w9 ⟨rfl, b9⟩
  have B9 := Lib.hid (bt B6.out (bt HB8.out b9))
  have H69 := Lib.hid (bt HB8.out b9)
  clear b9
  go_wp2_with fail
  refine ((CS _ _).out _ (R6.out.below H69.out) (R46.out.below H69.out)).mono ?_
  rintro en w10 ⟨rfl, b10⟩
  have BA := Lib.hid (bt B9.out b10)
  have HXA := Lib.hid (HX6.out.next (bt H69.out b10))
  have HAA := Lib.hid (HA6.out.next (bt H69.out b10))
  clear b10
  have c0 := HXA.out.cell 0; have c1 := HXA.out.cell 1
  have d0 := HAA.out.cell 0; have d1 := HAA.out.cell 1
  simp only [List.getElem?_cons_zero, List.getElem?_cons_succ] at c0 c1 d0 d1
  go_wp2_with fail
  go_ret
  exact ⟨by first | rfl | (simp; done), BA.out⟩
theorem add_cases (K T s : Bs) : (addJ K T s = ((K, T ++ framed s), 0) ∧ lok K T = true ∧ s.size ≤ 400 ∧ (itemsJ K T).length ≠ 64) ∨ (∃ e, addJ K T s = ((emptyS, emptyS), e) ∧ e ≠ 0) := by
  unfold addJ
  by_cases h : lok K T = true
  · rw [if_pos h]
    by_cases hk : 400 < s.size ∨ (itemsJ K T).length = 64
    · rw [if_pos hk]; exact .inr ⟨2, rfl, by decide⟩
    · rw [if_neg hk]
      exact .inl ⟨rfl, h, by omega, fun he => hk (.inr he)⟩
  · rw [if_neg h]; exact .inr ⟨1, rfl, by decide⟩
theorem items_len (K T : Bs) : (itemsJ K T).length ≤ 64 := (rd_was 64 (K ++ T).data.toList).1
theorem itemsF_ok {K T : Bs} (h : lok K T = true) : itemsF K T = (itemsJ K T, 0) := by unfold itemsF; rw [if_pos h]
theorem syncJ_ok {K T : Bs} (h : lok K T = true) : syncJ K T = ((K ++ T, emptyS), 0) := by unfold syncJ; rw [if_pos h]
theorem adds_end (x : Lg) (s : Bs) (w : World) (hx : x.1.size ≤ 140737488351232 ∧ x.2.size ≤ 140737488351232) (hs : s.size ≤ 140737488351232) : Calls Try.prog 10 #[aL x.1 x.2, .string s] w (TrueQ w) := by
  obtain ⟨K, T⟩ := x
  simp only at hx
  have c1 := add_any K T s (by omega) (by omega)
  rcases add_cases K T s with ⟨h1, h2, h3, h4⟩ | ⟨e, h1, h2⟩
  · rw [h1] at c1
    have hz : (T ++ framed s).size ≤ T.size + 402 := by rw [ByteArray.size_append, framed_size s h3]; omega
    obtain ⟨g1, g2⟩ := lok_add h2 h3 h4
    obtain ⟨f1, f2⟩ := lok_sync g1
    have c2 := items_any K T (by omega)
    rw [itemsF_ok h2] at c2
    have c3 := items_any K (T ++ framed s) (by omega)
    rw [itemsF_ok g1, g2] at c3
    have c4 := sync_any K (T ++ framed s) (by omega)
    rw [syncJ_ok g1] at c4
    have c5 := items_any (K ++ (T ++ framed s)) emptyS (by have : emptyS.size = 0 := rfl; rw [ByteArray.size_append]; omega)
    rw [itemsF_ok f1, f2, g2] at c5
    exact adds_core K T s _ _ (itemsJ K T) w (items_len K T) (Lib.hid c1) (Lib.hid c2) (Lib.hid c3) (Lib.hid c4) (Lib.hid c5)
  · rw [h1] at c1
    exact adds_bad K T s e w h2 (Lib.hid c1)
end Jr
end Go.Proofs.Ytlpefkbgdbiinaa
