/- The law that what is written is read as it was. -/
import Derived.Test.YtlpefkbgdbiinaaFrameLaws
set_option linter.unusedVariables false
namespace Go.Proofs.Ytlpefkbgdbiinaa
open Go.RowKit
namespace Fr
theorem write_rd (k : Nat) (hk : k ≤ 64) (s : Bs) : writeF (rd k s.data.toList).1 = (s.extract 0 (rd k s.data.toList).2, 0) := by
  obtain ⟨h1, h2, h3, h4⟩ := rd_was k s.data.toList
  rw [write_ok _ (by omega) h2, h4]
  congr 1
  apply ba_ext
  rw [mk_list, ext_list, List.drop_zero, Nat.sub_zero]
theorem write_cases (xs : List Bs) : (xs.length ≤ 64 ∧ small xs ∧ writeF xs = (mk (encL xs), 0)) ∨ writeF xs = (emptyS, 2) := by
  by_cases h : xs.length ≤ 64 ∧ small xs
  · exact .inl ⟨h.1, h.2, write_ok xs h.1 h.2⟩
  · right; unfold writeF; rw [if_neg h]
set_option maxHeartbeats 4000000 in
/-- the second half: what is read was written just so -/
theorem back_core (v : Value) (xs R : List Bs) (s A : Bs) (e : Int) (n : Nat) (w : World) (h : RdE elS w v xs) (hn : n ≤ s.size) (hs : s.size ≤ 9223372036854775807)
    (he : (e = 0 ∧ RowKit.Hid (∀ w, Calls Try.prog 12 #[.string A] w fun en w' => ∃ v, en = .returned (.tuple #[v, .int .i64 (A.size : Int)]) ∧ ROwn elS w' w.heap.size v xs ∧ Below w.heap.size w w')) ∨ e = 2)
    (C1 : RowKit.Hid (∀ w, RdE elS w v xs → Calls Try.prog 11 #[v] w (TextQ (A, e) w)))
    (C2 : RowKit.Hid (∀ w, Calls Try.prog 12 #[.string s] w fun en w' => ∃ v, en = .returned (.tuple #[v, .int .i64 (n : Int)]) ∧ ROwn elS w' w.heap.size v R ∧ Below w.heap.size w w'))
    (C3 : RowKit.Hid (∀ v w, RdE elS w v R → Calls Try.prog 11 #[v] w (TextQ (s.extract 0 n, 0) w)))
    (C5 : RowKit.Hid (∀ v u w, RdE elS w v xs → RdE elS w u xs → Calls Try.prog 16 #[v, u] w (TrueQ w))) :
    Calls Try.prog 4 #[v, .string s] w (TrueQ w) := by
  have H := Lib.hid h
  clear h
  have CB := Lib.hid begun_any
  have hsl : ∀ w, (Instr.slice 9 (.string s) none (some (.int .i64 (n : Int))) none).run Try.prog w = .ok (.string (s.extract 0 n)) w := fun w => by
    have := run_slice_string_h (P := Try.prog) (w := w) 9 s Try.underlying9 .i64 (n : Int) (by omega) (by omega)
    rw [this]; simp
  have n0 : (0 : Int) ≤ (n : Int) := by omega
  have n1 : (n : Int) ≤ (s.size : Int) := by omega
  obtain ⟨X, hX⟩ : ∃ X, s.extract 0 n = X := ⟨_, rfl⟩
  simp only [hX] at hsl C3
  have hXX : (X.toList == X.toList) = true := by simp
  clear hX
  rcases he with ⟨rfl, he⟩ | rfl
  · have HE := Lib.hid he
    have ha : ((A.size : Int) != (A.size : Int)) = false := by simp
    go_enter Try.func4, Try.ntmps4
    go_wp2_with fail
    refine (C1.out _ H.out).mono ?_
    rintro en w1 ⟨rfl, b1⟩
    have B1 := Lib.hid b1
    clear b1
    go_wp2_with fail
    refine (CB.out _).mono ?_
    rintro en w2 ⟨rfl, b2⟩
    have B2 := Lib.hid (bt B1.out b2)
    clear b2
    go_wp2_with fail
    refine (HE.out.out _).mono ?_
    rintro en w3 ⟨v3, rfl, r3, b3⟩
    have B3 := Lib.hid (bt B2.out b3); have R3 := Lib.hid r3.rd
    clear b3 r3
    go_wp2_with fail
    refine (C5.out _ _ _ R3.out (H.out.below B3.out)).mono ?_
    rintro en w4 ⟨rfl, b4⟩
    have B4 := Lib.hid (bt B3.out b4)
    clear b4 R3
    go_wp2_with fail
    refine (C2.out _).mono ?_
    rintro en w5 ⟨v5, rfl, r5, b5⟩
    have B5 := Lib.hid (bt B4.out b5); have R5 := Lib.hid r5.rd
    clear b5 r5
    go_wp2_with fail
    refine (C3.out _ _ R5.out).mono ?_
    rintro en w6 ⟨rfl, b6⟩
    have B6 := Lib.hid (bt B5.out b6)
    clear b6 R5
    go_wp2_with fail
    try go_quiet (fail)
    go_wp2
    go_ret
    exact ⟨by first | rfl | (simp; done), by first | exact B6.out | exact bn B6.out _⟩
  · go_enter Try.func4, Try.ntmps4
    go_wp2_with fail
    refine (C1.out _ H.out).mono ?_
    rintro en w1 ⟨rfl, b1⟩
    have B1 := Lib.hid b1
    clear b1
    go_wp2_with fail
    refine (CB.out _).mono ?_
    rintro en w2 ⟨rfl, b2⟩
    have B2 := Lib.hid (bt B1.out b2)
    clear b2
    go_wp2_with fail
    refine (C2.out _).mono ?_
    rintro en w5 ⟨v5, rfl, r5, b5⟩
    have B5 := Lib.hid (bt B2.out b5); have R5 := Lib.hid r5.rd
    clear b5 r5
    go_wp2_with fail
    refine (C3.out _ _ R5.out).mono ?_
    rintro en w6 ⟨rfl, b6⟩
    have B6 := Lib.hid (bt B5.out b6)
    clear b6 R5
    go_wp2_with fail
    try go_quiet (fail)
    go_wp2
    go_ret
    exact ⟨by first | rfl | (simp; done), by first | exact B6.out | exact bn B6.out _⟩
theorem back_end (v : Value) (xs : List Bs) (s : Bs) (w : World) (h : RdS w v xs) (hs : s.size ≤ 140737488351232) : Calls Try.prog 4 #[v, .string s] w (TrueQ w) := by
  have hw := rd_was 64 s.data.toList
  refine back_core v xs (rd 64 s.data.toList).1 s (writeF xs).1 (writeF xs).2 (rd 64 s.data.toList).2 w h.1 hw.2.2.1 (by omega) ?_ (Lib.hid (fun w h' => write_any v xs w h' h.siz)) (Lib.hid (read_any s (by omega))) ?_ (Lib.hid (same_self _))
  · rcases write_cases xs with ⟨h1, h2, h3⟩ | h3
    · left
      refine ⟨by rw [h3], Lib.hid (fun w => ?_)⟩
      have hl := encL_len xs h2
      have := read_any (writeF xs).1 (by rw [h3]; simp only [mk_size]; omega) w
      rw [h3] at this ⊢
      simp only [mk_list, rd_back xs h2 h1, mk_size] at this ⊢
      exact this
    · right; rw [h3]
  · refine Lib.hid (fun v w h' => ?_)
    have := write_any v _ w h' (fun t ht => by have := hw.2.1 t ht; omega)
    rw [write_rd 64 (by omega)] at this
    exact this
end Fr
end Go.Proofs.Ytlpefkbgdbiinaa
