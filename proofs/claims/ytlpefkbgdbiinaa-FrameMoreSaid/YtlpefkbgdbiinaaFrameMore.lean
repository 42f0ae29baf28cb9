/- The law on texts behind whole frames. -/
import Derived.Test.YtlpefkbgdbiinaaFrameBack
import Derived.Test.YtlpefkbgdbiinaaEl2
set_option linter.unusedVariables false
namespace Go.Proofs.Ytlpefkbgdbiinaa
open Go.RowKit
namespace Fr
set_option maxHeartbeats 4000000 in
theorem more_bad (v : Value) (xs : List Bs) (s : Bs) (w : World) (h : RdE elS w v xs)
    (C1 : RowKit.Hid (∀ w, RdE elS w v xs → Calls Try.prog 11 #[v] w (TextQ (emptyS, 2) w))) :
    Calls Try.prog 6 #[v, .string s] w (TrueQ w) := by
  have H := Lib.hid h
  have CB := Lib.hid begun_any
  have hem : emptyS.toList = [] := by rw [ByteArray.toList_eq]; rfl
  go_enter Try.func6, Try.ntmps6
  go_wp2_with fail
  refine (C1.out _ H.out).mono ?_
  rintro en w1 ⟨rfl, b1⟩
  have B1 := Lib.hid b1
  clear b1
  go_wp2_with fail
  refine (CB.out _).mono ?_
  rintro en w2 ⟨rfl, b2⟩
  have B2 := Lib.hid (bt B1.out b2)
  clear b2
  go_wp2_with fail
  go_ret
  exact ⟨by first | rfl | (simp; done), B2.out⟩
set_option maxHeartbeats 4000000 in
theorem more_core (v : Value) (xs R M : List Bs) (s A : Bs) (j n : Nat) (w : World) (h : RdE elS w v xs) (hl : xs.length ≤ 64) (hR : R.length ≤ 64) (hA : A.size ≤ 25728) (hs : s.size ≤ 140737488351232) (hj : j ≤ s.size)
    (hcase : (64 < xs.length + R.length ∧ M.length = 64) ∨ (xs.length + R.length ≤ 64 ∧ M = xs ++ R ∧ n = A.size + j))
    (C1 : RowKit.Hid (∀ w, RdE elS w v xs → Calls Try.prog 11 #[v] w (TextQ (A, 0) w)))
    (C2 : RowKit.Hid (∀ w, Calls Try.prog 12 #[.string (A ++ s)] w fun en w' => ∃ v, en = .returned (.tuple #[v, .int .i64 (n : Int)]) ∧ ROwn elS w' w.heap.size v M ∧ Below w.heap.size w w'))
    (C3 : RowKit.Hid (∀ w, Calls Try.prog 12 #[.string s] w fun en w' => ∃ v, en = .returned (.tuple #[v, .int .i64 (j : Int)]) ∧ ROwn elS w' w.heap.size v R ∧ Below w.heap.size w w'))
    (C5 : RowKit.Hid (∀ v u w, RdE elS w v M → RdE elS w u M → Calls Try.prog 16 #[v, u] w (TrueQ w))) :
    Calls Try.prog 6 #[v, .string s] w (TrueQ w) := by
  have H := Lib.hid h
  have CB := Lib.hid begun_any
  have ct1 := fun w => run_string_add_sum (P := Try.prog) (w := w) A s (by omega)
  obtain ⟨X, hX⟩ : ∃ X, A ++ s = X := ⟨_, rfl⟩
  simp only [hX] at ct1 C2
  clear hX
  obtain ⟨ad, cap, rfl, h1, h2, h3⟩ := h
  clear h3
  have hll : (xs.length : Int) ≤ 64 := by omega
  have hRl : (R.length : Int) ≤ 64 := by omega
  have HC := Lib.hid hcase
  clear hcase
  go_enter Try.func6, Try.ntmps6
  go_wp2_with fail
  refine (C1.out _ H.out).mono ?_
  rintro en w1 ⟨rfl, b1⟩
  have B1 := Lib.hid b1
  clear b1
  go_wp2_with fail
  refine (CB.out _).mono ?_
  rintro en w2 ⟨rfl, b2⟩
  have B2 := Lib.hid (bt B1.out b2)
  clear b2
  go_wp2_with fail
  refine (C2.out _).mono ?_
  rintro en w3 ⟨v3, rfl, r3, b3⟩
  have B3 := Lib.hid (bt B2.out b3); have R3 := Lib.hid r3.rd
  clear b3 r3
  go_wp2_with fail
  refine (C3.out _).mono ?_
  rintro en w4 ⟨v4, rfl, r4, b4⟩
  have B4 := Lib.hid (bt B3.out b4); have R4 := Lib.hid r4.rd; have R3b := Lib.hid (R3.out.below b4)
  clear b4 r4 R3
  obtain ⟨a4, c4, e4, f1, f2, _⟩ := R4.out
  subst e4
  obtain ⟨a3, c3, e3, g1, g2, _⟩ := R3b.out
  subst e3
  have H4 := Lib.hid (H.out.below B4.out)
  rcases HC.out with ⟨hg, hM⟩ | ⟨hg, hM, hn⟩
  · have q1 : (64 : Int) < (xs.length : Int) + (R.length : Int) := by omega
    have q2 : ((M.length : Int) == 64) = true := by simp [hM]
    clear hM
    go_wp2
    go_ret
    exact ⟨by first | rfl | (simp; done), B4.out⟩
  · subst hM
    by_cases he : xs.length + R.length = 64
    · have q1 : ¬ (64 : Int) < (xs.length : Int) + (R.length : Int) := by omega
      have q2 : (((xs ++ R).length : Int) == 64) = true := by simp; omega
      have q3 : ((xs.length : Int) + (R.length : Int) == 64) = true := by simp; omega
      have q4 : ((n : Int) == (A.size : Int) + (j : Int)) = true := by simp; omega
      clear hn he
      go_wp2
      go_ret
      exact ⟨by first | rfl | (simp; done), B4.out⟩
    · have q1 : ¬ (64 : Int) < (xs.length : Int) + (R.length : Int) := by omega
      have q3 : ((xs.length : Int) + (R.length : Int) == 64) = false := by rw [beq_eq_false_iff_ne]; omega
      have q4 : ((n : Int) == (A.size : Int) + (j : Int)) = true := by simp; omega
      have L0 := Lib.hid (ROwn.lit0 (E := elS) w4 w4.heap.size w4.heap.size rfl (Nat.le_refl _))
      have hr3 := R3b.out
      rw [List.length_append] at hr3
      have R3c := Lib.hid hr3
      clear hr3 R3b
      have hal := (br w4).alloc (Nat.le_refl _) (.cells #[] 9)
      have HAL := Lib.hid hal
      have R5x := Lib.hid (H4.out.below hal)
      clear hn he H hal H4
      go_wp2_with (first | (at_builtin; refine appE_g (o := ⟨some 70, _, _, _, _, _⟩) elS (by rfl) (.tmp 68) (.tmp 69) rfl w4.heap.size _ [] rfl L0.out _ xs rfl R5x.out (by unfold maxLen; simp; omega) (by show _ * 16 ≤ _; simp; omega) HAL.out.size ?_; intro v1 w5 hown1 hb5 hfar5; have HO1 := Lib.hid hown1; have HB5 := Lib.hid (HAL.out.trans hb5); have R6 := Lib.hid (R4.out.below (HAL.out.trans hb5)); clear hown1 hfar5 hb5) | (at_builtin; refine appE_g (o := ⟨some 72, _, _, _, _, _⟩) elS (by rfl) (.tmp 70) (.tmp 71) rfl w4.heap.size _ ([] ++ xs) rfl HO1.out _ R rfl R6.out (by unfold maxLen; simp; omega) (by show _ * 16 ≤ _; simp; omega) HB5.out.size ?_; intro v2 w6 hown2 hb6 hfar6; have HO2 := Lib.hid hown2; have HB6 := Lib.hid (HB5.out.trans hb6); have R7 := Lib.hid (R3c.out.below (HB5.out.trans hb6)); clear hown2 hfar6 hb6))
      refine (C5.out _ _ _ R7.out HO2.out.rd).mono ?_
      rintro en w7 ⟨rfl, b7⟩
      have B7 := Lib.hid (bt B4.out (bt HB6.out b7))
      clear b7
      go_wp2
      go_ret
      exact ⟨by first | rfl | (simp; done), B7.out⟩
theorem more_end (v : Value) (xs : List Bs) (s : Bs) (w : World) (h : RdS w v xs) (hs : s.size ≤ 140737488351232) : Calls Try.prog 6 #[v, .string s] w (TrueQ w) := by
  rcases write_cases xs with ⟨h1, h2, h3⟩ | h3
  · have hl := encL_len xs h2
    have hw := rd_was 64 s.data.toList
    have hm := rd_more xs h2 h1 s.data.toList
    have hsz : (mk (encL xs)).size = (encL xs).length := mk_size _
    have C1 : RowKit.Hid (∀ w, RdE elS w v xs → Calls Try.prog 11 #[v] w (TextQ (mk (encL xs), 0) w)) := Lib.hid (fun w h' => by have := write_any v xs w h' h.siz; rw [h3] at this; exact this)
    have hd : (mk (encL xs) ++ s).data.toList = encL xs ++ s.data.toList := by rw [ByteArray.data_append, Array.toList_append, mk_list]
    have C2 := Lib.hid (read_any (mk (encL xs) ++ s) (by rw [ByteArray.size_append, hsz]; omega))
    rw [hd] at C2
    refine more_core v xs (rd 64 s.data.toList).1 (rd 64 (encL xs ++ s.data.toList)).1 s (mk (encL xs)) (rd 64 s.data.toList).2 (rd 64 (encL xs ++ s.data.toList)).2 w h.1 h1 hw.1 (by omega) hs hw.2.2.1 ?_ C1 C2 (Lib.hid (read_any s (by omega))) (Lib.hid (same_self _))
    by_cases hc : 64 < xs.length + (rd 64 s.data.toList).1.length
    · exact .inl ⟨hc, hm.1 hc⟩
    · right
      refine ⟨by omega, ?_, ?_⟩
      · rw [hm.2 (by omega)]
      · rw [hm.2 (by omega), hsz]
  · refine more_bad v xs s w h.1 (Lib.hid (fun w h' => ?_))
    have := write_any v xs w h' h.siz
    rw [h3] at this; exact this
end Fr
end Go.Proofs.Ytlpefkbgdbiinaa
