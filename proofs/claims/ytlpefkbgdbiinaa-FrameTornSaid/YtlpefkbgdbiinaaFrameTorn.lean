/- The law on a text that was torn off. -/
import Derived.Test.YtlpefkbgdbiinaaFrameBack
import Derived.Test.YtlpefkbgdbiinaaEl2
set_option linter.unusedVariables false
namespace Go.Proofs.Ytlpefkbgdbiinaa
open Go.RowKit
namespace Fr
def szj (xs : List Bs) (j : Nat) : Nat := (encL (xs.take j)).length
theorem szj_succ (xs : List Bs) (j : Nat) (h : j < xs.length) : szj xs (j + 1) = szj xs j + 2 + xs[j].size := by
  unfold szj
  rw [enc_take xs j h, List.length_append, List.length_append]
  have hl : xs[j].data.toList.length = xs[j].size := rfl
  rw [hl]; simp [hd]
theorem szj_le (xs : List Bs) (j : Nat) (hs : small xs) (h : xs.length ≤ 64) : szj xs j ≤ 25728 := by
  have h1 := encL_len (xs.take j) (fun t ht => hs t (List.mem_of_mem_take ht))
  have h2 : (xs.take j).length ≤ 64 := by rw [List.length_take]; omega
  unfold szj; omega
def tornAt (xs : List Bs) (K j : Nat) : Prop := szj xs j ≤ K ∧ torn xs K = ((torn (xs.drop j) (K - szj xs j)).1 + j, (torn (xs.drop j) (K - szj xs j)).2 + szj xs j)
theorem tornAt_zero (xs : List Bs) (K : Nat) : tornAt xs K 0 := by unfold tornAt szj; simp [encL]
theorem tornAt_step (xs : List Bs) (K j : Nat) (h : j < xs.length) (ht : tornAt xs K j) (hf : szj xs j + 2 + xs[j].size ≤ K) : tornAt xs K (j + 1) := by
  obtain ⟨h1, h2⟩ := ht
  have hs := szj_succ xs j h
  refine ⟨by omega, ?_⟩
  rw [h2, List.drop_eq_getElem_cons h]
  have e : torn (xs[j] :: xs.drop (j + 1)) (K - szj xs j) = ((torn (xs.drop (j + 1)) (K - szj xs j - (2 + xs[j].size))).1 + 1, 2 + xs[j].size + (torn (xs.drop (j + 1)) (K - szj xs j - (2 + xs[j].size))).2) := by
    show (if _ then _ else _) = _
    rw [if_pos (by omega)]
  rw [e, hs, show K - szj xs j - (2 + xs[j].size) = K - (szj xs j + 2 + xs[j].size) by omega]
  simp only [Prod.mk.injEq]; omega
theorem tornAt_end (xs : List Bs) (K j : Nat) (h : j ≤ xs.length) (ht : tornAt xs K j) (hf : ∀ h : j < xs.length, K < szj xs j + 2 + xs[j].size) : torn xs K = (j, szj xs j) := by
  obtain ⟨h1, h2⟩ := ht
  rw [h2]
  have e : torn (xs.drop j) (K - szj xs j) = (0, 0) := by
    by_cases hlt : j < xs.length
    · have := hf hlt
      rw [List.drop_eq_getElem_cons hlt]
      show (if _ then _ else _) = _
      rw [if_neg (by omega)]
    · rw [List.drop_eq_nil_of_le (by omega)]; rfl
  rw [e]; simp
set_option maxHeartbeats 4000000 in
theorem torn_core (v : Value) (xs : List Bs) (A : Bs) (K : Nat) (w : World) (h : RdE elS w v xs) (hz : ∀ s ∈ xs, s.size ≤ 9223372036854775807) (hl : xs.length ≤ 64) (hs : small xs) (hA : A = mk (encL xs)) (hK : K ≤ A.size)
    (C1 : RowKit.Hid (∀ w, RdE elS w v xs → Calls Try.prog 11 #[v] w (TextQ (A, 0) w)))
    (C2 : RowKit.Hid (∀ w, Calls Try.prog 12 #[.string (A.extract 0 K)] w fun en w' => ∃ v, en = .returned (.tuple #[v, .int .i64 ((torn xs K).2 : Int)]) ∧ ROwn elS w' w.heap.size v (xs.take (torn xs K).1) ∧ Below w.heap.size w w')) :
    Calls Try.prog 5 #[v, .int .i64 (K : Int)] w (TrueQ w) := by
  have H := Lib.hid h
  have CB := Lib.hid begun_any
  have hAs : A.size ≤ 25728 := by
    have := encL_len xs hs
    rw [hA, mk_size]; omega
  have HS := Lib.hid hs
  obtain ⟨ad, cap, rfl, h1, h2, h3⟩ := h
  have H3 := Lib.hid h3
  have hsl : ∀ w, (Instr.slice 9 (.string A) none (some (.int .i64 (K : Int))) none).run Try.prog w = .ok (.string (A.extract 0 K)) w := fun w => by
    have := run_slice_string_h (P := Try.prog) (w := w) 9 A Try.underlying9 .i64 (K : Int) (by omega) (by omega)
    rw [this]; simp
  have n0 : (0 : Int) ≤ (K : Int) := by omega
  have n1 : (K : Int) ≤ (A.size : Int) := by omega
  obtain ⟨X, hX⟩ : ∃ X, A.extract 0 K = X := ⟨_, rfl⟩
  simp only [hX] at hsl C2
  clear hX h3 hs hA hz
  go_enter Try.func5, Try.ntmps5
  go_wp2_with fail
  refine (C1.out _ H.out).mono ?_
  rintro en w1 ⟨rfl, b1⟩
  have B1 := Lib.hid b1
  clear b1
  go_wp2_with fail
  refine (CB.out _).mono ?_
  rintro en w2 ⟨rfl, b2⟩
  have B2 := Lib.hid (bt B1.out b2)
  clear b2
  go_wp2_with fail
  refine (C2.out _).mono ?_
  rintro en w3 ⟨v3, rfl, r3, b3⟩
  have B3 := Lib.hid (bt B2.out b3); have R3 := Lib.hid r3.rd
  clear b3 r3
  go_wp2_with fail
  obtain ⟨TN, hTN⟩ : ∃ TN, torn xs K = TN := ⟨_, rfl⟩
  rw [hTN] at R3 ⊢
  have HTN := Lib.hid hTN
  have hsz0 : szj xs 0 = 0 := rfl
  have HSZ0 := Lib.hid hsz0
  have HAS := Lib.hid hAs
  clear hTN hsz0 C1 C2 CB
  go_loopw [9, 10] (fun sz i wr => ∃ j : Nat, j ≤ xs.length ∧ i = .int .i64 j ∧ sz = .int .i64 ((szj xs j : Nat) : Int) ∧ tornAt xs K j ∧ Below w3.heap.size w3 wr) (fun _ i _ => xs.length - (intOf i).toNat)
  case atStart => exact ⟨0, by omega, rfl, by rw [HSZ0.out]; rfl, tornAt_zero xs K, br _⟩
  case round =>
    obtain ⟨j, hj, rfl, rfl, hta, hbw⟩ := hrel
    have HTA := Lib.hid hta
    have hzj := szj_le xs j HS.out hl
    have HBW := Lib.hid hbw
    by_cases hlt : j < xs.length
    · obtain ⟨g, off, rfl, hbl, hc⟩ := H3.out (by omega)
      have d0 := (hbw.cell (p := ⟨g, off + j, none⟩) (Nat.lt_of_lt_of_le hbl B3.out.size)).trans ((B3.out.cell (p := ⟨g, off + j, none⟩) hbl).trans (eS_at hc j hlt))
      have hsz := HS.out _ (List.getElem_mem hlt)
      have i1 : (j : Int) < (xs.length : Int) := by omega
      have i0 : (0 : Int) ≤ (j : Int) := by omega
      have hsc := szj_succ xs j hlt
      by_cases hf : szj xs j + 2 + xs[j].size ≤ K
      · have HST := Lib.hid (tornAt_step xs K j hlt hta hf)
        have HSC := Lib.hid hsc
        clear hta hbw hc H3 H hsc
        generalize xs[j] = t at *
        generalize szj xs j = z at *
        have q1 : (z : Int) + 2 + (t.size : Int) ≤ (K : Int) := by omega
        have q2 : (K : Int) ≤ 25728 := by have := HAS.out; omega
        have q3 : IntKind.i64.wrap ((z : Int) + 2) = (z : Int) + 2 := IntWalk.i64_in _ (by omega)
        have q4 : IntKind.i64.wrap ((z : Int) + 2 + (t.size : Int)) = (z : Int) + 2 + (t.size : Int) := IntWalk.i64_in _ (by omega)
        have q5 : IntKind.i64.wrap (2 + (t.size : Int)) = 2 + (t.size : Int) := IntWalk.i64_in _ (by omega)
        have q6 : IntKind.i64.wrap ((z : Int) + (2 + (t.size : Int))) = (z : Int) + (2 + (t.size : Int)) := IntWalk.i64_in _ (by omega)
        go_wp2_with fail
        try go_quiet (fail)
        go_wp2
        try go_quiet (fail)
        go_wp2
        go_roundw
        case rel => exact ⟨j + 1, by omega, by go_num, by rw [HSC.out]; congr 1; omega, HST.out, by first | exact HBW.out | exact bn HBW.out _⟩
        case measure => simp [intOf]; omega
      · have hend := tornAt_end xs K j hj hta (fun _ => by omega)
        rw [HTN.out] at hend
        subst hend
        have hP := rd_pre H.out j (by omega)
        have HP := Lib.hid ((hP.below B3.out).below hbw)
        have HR := Lib.hid (R3.out.below hbw)
        have C5 := Lib.hid (same_self (xs.take j))
        have hnn : (((szj xs j : Nat) : Int) == ((szj xs j : Nat) : Int)) = true := by simp
        clear hta hbw hc H3 H hsc hP R3
        generalize xs[j] = t at *
        generalize szj xs j = z at *
        have q1 : (K : Int) < (z : Int) + 2 + (t.size : Int) := by omega
        have q2 : (K : Int) ≤ 25728 := by have := HAS.out; omega
        have q3 : IntKind.i64.wrap ((z : Int) + 2) = (z : Int) + 2 := IntWalk.i64_in _ (by omega)
        have q4 : IntKind.i64.wrap ((z : Int) + 2 + (t.size : Int)) = (z : Int) + 2 + (t.size : Int) := IntWalk.i64_in _ (by omega)
        simp only at HR
        go_wp2_with fail
        refine (C5.out _ _ _ HR.out HP.out).mono ?_
        rintro en w4 ⟨rfl, b4⟩
        go_wp2_with fail
        go_ret
        exact ⟨by first | rfl | (simp; done), bt B3.out (bt HBW.out b4)⟩
    · have e : j = xs.length := by omega
      subst e
      have hend := tornAt_end xs K xs.length hj hta (fun h => absurd h (Nat.lt_irrefl _))
      rw [HTN.out] at hend
      subst hend
      have hP := rd_pre H.out xs.length (by omega)
      have HP := Lib.hid ((hP.below B3.out).below hbw)
      have HR := Lib.hid (R3.out.below hbw)
      have C5 := Lib.hid (same_self (xs.take xs.length))
      have hnn : (((szj xs xs.length : Nat) : Int) == ((szj xs xs.length : Nat) : Int)) = true := by simp
      clear hta hbw H3 H hP R3
      generalize szj xs xs.length = z at *
      simp only at HR
      go_wp2_with fail
      refine (C5.out _ _ _ HR.out HP.out).mono ?_
      rintro en w4 ⟨rfl, b4⟩
      go_wp2_with fail
      go_ret
      exact ⟨by first | rfl | (simp; done), bt B3.out (bt HBW.out b4)⟩
set_option maxHeartbeats 2000000 in
/-- where nothing is torn off -/
theorem torn_out (v : Value) (xs : List Bs) (A : Bs) (e k : Int) (w : World) (h : RdE elS w v xs) (hA : A.size ≤ 25728) (he : (e = 0 ∧ (k < 0 ∨ (A.size : Int) < k)) ∨ (e = 2 ∧ A = emptyS))
    (C1 : RowKit.Hid (∀ w, RdE elS w v xs → Calls Try.prog 11 #[v] w (TextQ (A, e) w))) :
    Calls Try.prog 5 #[v, .int .i64 k] w (TrueQ w) := by
  have H := Lib.hid h
  have CB := Lib.hid begun_any
  rcases he with ⟨rfl, hk⟩ | ⟨rfl, rfl⟩
  · rcases (show k < 0 ∨ (0 ≤ k ∧ (A.size : Int) < k) by omega) with hk | ⟨hk0, hk⟩
    · go_enter Try.func5, Try.ntmps5
      go_wp2_with fail
      refine (C1.out _ H.out).mono ?_
      rintro en w1 ⟨rfl, b1⟩
      have B1 := Lib.hid b1
      clear b1
      go_wp2_with fail
      refine (CB.out _).mono ?_
      rintro en w2 ⟨rfl, b2⟩
      have B2 := Lib.hid (bt B1.out b2)
      clear b2
      go_wp2_with fail
      go_ret
      exact ⟨by first | rfl | (simp; done), B2.out⟩
    · go_enter Try.func5, Try.ntmps5
      go_wp2_with fail
      refine (C1.out _ H.out).mono ?_
      rintro en w1 ⟨rfl, b1⟩
      have B1 := Lib.hid b1
      clear b1
      go_wp2_with fail
      refine (CB.out _).mono ?_
      rintro en w2 ⟨rfl, b2⟩
      have B2 := Lib.hid (bt B1.out b2)
      clear b2
      go_wp2_with fail
      go_ret
      exact ⟨by first | rfl | (simp; done), B2.out⟩
  · have hem : emptyS.toList = [] := by rw [ByteArray.toList_eq]; rfl
    go_enter Try.func5, Try.ntmps5
    go_wp2_with fail
    refine (C1.out _ H.out).mono ?_
    rintro en w1 ⟨rfl, b1⟩
    have B1 := Lib.hid b1
    clear b1
    go_wp2_with fail
    refine (CB.out _).mono ?_
    rintro en w2 ⟨rfl, b2⟩
    have B2 := Lib.hid (bt B1.out b2)
    clear b2
    go_wp2_with fail
    go_ret
    exact ⟨by first | rfl | (simp; done), B2.out⟩
theorem torn_end (v : Value) (xs : List Bs) (k : Int) (w : World) (h : RdS w v xs) (hk : (Lit.int .i64 k).wf = true) : Calls Try.prog 5 #[v, .int .i64 k] w (TrueQ w) := by
  rcases write_cases xs with ⟨h1, h2, h3⟩ | h3
  · have hl := encL_len xs h2
    have C1 : RowKit.Hid (∀ w, RdE elS w v xs → Calls Try.prog 11 #[v] w (TextQ (mk (encL xs), 0) w)) := Lib.hid (fun w h' => by have := write_any v xs w h' h.siz; rw [h3] at this; exact this)
    by_cases hr : k < 0 ∨ ((mk (encL xs)).size : Int) < k
    · exact torn_out v xs _ 0 k w h.1 (by rw [mk_size]; omega) (.inl ⟨rfl, hr⟩) C1
    · obtain ⟨K, rfl⟩ : ∃ K : Nat, k = (K : Int) := ⟨k.toNat, by omega⟩
      refine torn_core v xs _ K w h.1 h.siz h1 h2 rfl (by omega) C1 (Lib.hid (fun w => ?_))
      have := read_any ((mk (encL xs)).extract 0 K) (by simp [mk_size]; omega) w
      rw [ext_list, mk_list, List.drop_zero, Nat.sub_zero, rd_torn xs h2 64 K h1] at this
      exact this
  · refine torn_out v xs emptyS 2 k w h.1 (by decide) (.inr ⟨rfl, rfl⟩) (Lib.hid (fun w h' => ?_))
    have := write_any v xs w h' h.siz
    rw [h3] at this; exact this
end Fr
end Go.Proofs.Ytlpefkbgdbiinaa
