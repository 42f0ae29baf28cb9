/- Journals: the law on a second crash, the law on what is added. -/
import Derived.Test.YtlpefkbgdbiinaaJournalLaws
import Derived.Test.YtlpefkbgdbiinaaJournalPlain2
import Derived.Test.YtlpefkbgdbiinaaEl2
set_option linter.unusedVariables false
namespace Go.Proofs.Ytlpefkbgdbiinaa
open Go.RowKit
namespace Jr
open Fr
theorem crash_cases (K T : Bs) (k : Int) : (∃ A, crashJ K T k = ((A, emptyS), 0) ∧ lok K T = true ∧ 0 ≤ k ∧ k ≤ (T.size : Int) ∧ A = cutJ (K ++ T.extract 0 k.toNat) ∧ A.size ≤ K.size + T.size) ∨ (∃ e, crashJ K T k = (zL, e) ∧ e ≠ 0) := by
  unfold crashJ
  by_cases h : lok K T = true
  · rw [if_pos h]
    by_cases hk : k < 0 ∨ (T.size : Int) < k
    · rw [if_pos hk]; exact .inr ⟨3, rfl, by decide⟩
    · rw [if_neg hk]
      refine .inl ⟨_, rfl, h, by omega, by omega, rfl, ?_⟩
      rw [cut_size]
      have h1 := rd_len 64 (K ++ T.extract 0 k.toNat)
      have h2 : (K ++ T.extract 0 k.toNat).size ≤ K.size + T.size := by rw [ByteArray.size_append]; simp; omega
      omega
  · rw [if_neg h]; exact .inr ⟨1, rfl, by decide⟩
set_option maxHeartbeats 4000000 in
theorem again_bad (K T : Bs) (k j e f : Int) (BA BB : Bs) (w : World) (he : e ≠ 0)
    (C1 : RowKit.Hid (∀ w, Calls Try.prog 20 #[aL K T, .int .i64 k] w (LogQ ((emptyS, emptyS), e) w)))
    (C2 : RowKit.Hid (∀ w, Calls Try.prog 20 #[aL K T, .int .i64 j] w (LogQ ((BA, BB), f) w))) :
    Calls Try.prog 9 #[aL K T, .int .i64 k, .int .i64 j] w (TrueQ w) := by
  have CB := Lib.hid begun_any
  have hb : (e != 0) = true := by simp [he]
  have hem : emptyS.toList = [] := by rw [ByteArray.toList_eq]; rfl
  unfold aL at *
  have HX0 := Lib.hid (Box.new w 34 [.string K, .string T])
  have HB0 := Lib.hid ((br w).alloc (Nat.le_refl _) (LB K T))
  clear he
  go_enter Try.func9, Try.ntmps9
  go_wp2_with fail
  refine (C1.out _).mono ?_
  rintro en w1 ⟨rfl, b1⟩
  have B1 := Lib.hid (bt HB0.out b1)
  have HX1 := Lib.hid ((HX0.out.next b1).alloc (LB emptyS emptyS))
  clear b1
  have c0 := HX1.out.cell 0; have c1 := HX1.out.cell 1
  simp only [List.getElem?_cons_zero, List.getElem?_cons_succ] at c0 c1
  go_wp2_with fail
  refine (C2.out _).mono ?_
  rintro en w2 ⟨rfl, b2⟩
  have B2 := Lib.hid (bt (B1.out.alloc B1.out.size _) b2)
  have HA2 := Lib.hid (((Box.new w1 34 [.string emptyS, .string emptyS]).next b2).alloc (LB BA BB))
  clear b2 c0 c1
  go_wp2_with fail
  refine (CB.out _).mono ?_
  rintro en w3 ⟨rfl, b3⟩
  have B3 := Lib.hid (bt (B2.out.alloc B2.out.size (LB BA BB)) b3)
  have HA3 := Lib.hid (HA2.out.next b3)
  clear b3
  have c0 := HA3.out.cell 0; have c1 := HA3.out.cell 1
  simp only [List.getElem?_cons_zero, List.getElem?_cons_succ] at c0 c1
  go_wp2_with fail
  go_ret
  exact ⟨by first | rfl | (simp; done), B3.out⟩
set_option maxHeartbeats 4000000 in
theorem again_core (K T A BA BB : Bs) (k j f : Int) (w : World) (hfin : f ≠ 0 ∨ (f = 0 ∧ j < k) ∨ (f = 0 ∧ ¬ j < k ∧ A.size ≤ BA.size))
    (C1 : RowKit.Hid (∀ w, Calls Try.prog 20 #[aL K T, .int .i64 k] w (LogQ ((A, emptyS), 0) w)))
    (C2 : RowKit.Hid (∀ w, Calls Try.prog 20 #[aL K T, .int .i64 j] w (LogQ ((BA, BB), f) w)))
    (C3 : RowKit.Hid (∀ w, Calls Try.prog 20 #[aL A emptyS, .int .i64 0] w (LogQ ((A, emptyS), 0) w))) :
    Calls Try.prog 9 #[aL K T, .int .i64 k, .int .i64 j] w (TrueQ w) := by
  have CB := Lib.hid begun_any
  have hem : emptyS.toList = [] := by rw [ByteArray.toList_eq]; rfl
  have hAA : (A.toList == A.toList) = true := by simp
  unfold aL at *
  have HX0 := Lib.hid (Box.new w 34 [.string K, .string T])
  have HB0 := Lib.hid ((br w).alloc (Nat.le_refl _) (LB K T))
  have HF := Lib.hid hfin
  clear hfin
  go_enter Try.func9, Try.ntmps9
  go_wp2_with fail
  refine (C1.out _).mono ?_
  rintro en w1 ⟨rfl, b1⟩
  have B1 := Lib.hid (bt HB0.out b1)
  have HX1 := Lib.hid ((HX0.out.next b1).alloc (LB A emptyS))
  clear b1
  have c0 := HX1.out.cell 0; have c1 := HX1.out.cell 1
  simp only [List.getElem?_cons_zero, List.getElem?_cons_succ] at c0 c1
  go_wp2_with fail
  refine (C2.out _).mono ?_
  rintro en w2 ⟨rfl, b2⟩
  have B2 := Lib.hid (bt (B1.out.alloc B1.out.size _) b2)
  have HA2 := Lib.hid (((Box.new w1 34 [.string A, .string emptyS]).next b2).alloc (LB BA BB))
  clear b2 c0 c1
  go_wp2_with fail
  refine (CB.out _).mono ?_
  rintro en w3 ⟨rfl, b3⟩
  have B3 := Lib.hid (bt (B2.out.alloc B2.out.size (LB BA BB)) b3)
  have HA3 := Lib.hid (HA2.out.next b3)
  have HE3 := Lib.hid ((Box.new w2 34 [.string BA, .string BB]).next b3)
  clear b3
  have c0 := HA3.out.cell 0; have c1 := HA3.out.cell 1
  simp only [List.getElem?_cons_zero, List.getElem?_cons_succ] at c0 c1
  go_wp2_with fail
  refine (C3.out _).mono ?_
  rintro en w4 ⟨rfl, b4⟩
  have B4 := Lib.hid (bt B3.out b4)
  have HA4 := Lib.hid ((HA3.out.next b4).alloc (LB A emptyS))
  have HE4 := Lib.hid ((HE3.out.next b4).alloc (LB A emptyS))
  have B5 := Lib.hid (B4.out.alloc B4.out.size (LB A emptyS))
  clear b4 c0 c1
  have c0 := HA4.out.cell 0; have c1 := HA4.out.cell 1
  have d0 := HE4.out.cell 0; have d1 := HE4.out.cell 1
  simp only [List.getElem?_cons_zero, List.getElem?_cons_succ] at c0 c1 d0 d1
  rcases HF.out with hf | ⟨hf, hj⟩ | ⟨hf, hj, hz⟩
  · have q1 : (f != 0) = true := by simp [hf]
    clear hf
    go_wp2
    try go_quiet (fail)
    go_wp2
    go_ret
    exact ⟨by first | rfl | (simp; done), by first | exact B5.out | exact bn B5.out _⟩
  · subst hf
    go_wp2
    try go_quiet (fail)
    go_wp2
    go_ret
    exact ⟨by first | rfl | (simp; done), by first | exact B5.out | exact bn B5.out _⟩
  · subst hf
    have hz' : (A.size : Int) ≤ (BA.size : Int) := by omega
    go_wp2
    try go_quiet (fail)
    go_wp2
    go_ret
    exact ⟨by first | rfl | (simp; done), by first | exact B5.out | exact bn B5.out _⟩
theorem again_end (x : Lg) (k j : Int) (w : World) (hx : x.1.size ≤ 140737488351232 ∧ x.2.size ≤ 140737488351232) (_ : (Lit.int .i64 k).wf = true) (_ : (Lit.int .i64 j).wf = true) : Calls Try.prog 9 #[aL x.1 x.2, .int .i64 k, .int .i64 j] w (TrueQ w) := by
  obtain ⟨K, T⟩ := x
  simp only at hx
  have c1 := crash_any K T k (by omega)
  have c2 := crash_any K T j (by omega)
  rcases crash_cases K T k with ⟨A, h1, h2, h3, h4, h5, h6⟩ | ⟨e, h1, h2⟩
  · have c3 := crash_any A emptyS 0 (by have : emptyS.size = 0 := rfl; omega)
    rw [crash_again h1 ⟨h2, h3, h4⟩] at c3
    rw [h1] at c1
    refine again_core K T A (crashJ K T j).1.1 (crashJ K T j).1.2 k j (crashJ K T j).2 w ?_ (Lib.hid c1) (Lib.hid c2) (Lib.hid c3)
    rcases crash_cases K T j with ⟨B, g1, g2, g3, g4, g5, g6⟩ | ⟨e, g1, g2⟩
    · rw [g1]
      by_cases hj : j < k
      · exact .inr (.inl ⟨rfl, hj⟩)
      · refine .inr (.inr ⟨rfl, hj, ?_⟩)
        rw [h5, g5]
        exact crash_more K T j.toNat k.toNat (by omega)
    · rw [g1]; exact .inl g2
  · rw [h1] at c1
    exact again_bad K T k j e (crashJ K T j).2 (crashJ K T j).1.1 (crashJ K T j).1.2 w h2 (Lib.hid c1) (Lib.hid c2)
end Jr
end Go.Proofs.Ytlpefkbgdbiinaa
