/- The document's frames: written from the end, read one by one. -/
import Derived.Test.YtlpefkbgdbiinaaFrameRef
set_option linter.unusedVariables false
namespace Go.Proofs.Ytlpefkbgdbiinaa
open Go.RowKit
namespace Fr
def TextQ (r : Bs × Int) (w : World) (e : Ending) (w' : World) : Prop := e = .returned (.tuple #[.string r.1, .int .i64 r.2]) ∧ Below w.heap.size w w'
theorem write_many (xs : List Bs) (h : 64 < xs.length) : writeF xs = (emptyS, 2) := by unfold writeF; rw [if_neg (by omega)]
theorem write_big (xs : List Bs) (j : Nat) (hj : j < xs.length) (h : 400 < xs[j].size) : writeF xs = (emptyS, 2) := by
  unfold writeF; rw [if_neg]; rintro ⟨_, hs⟩; have := hs _ (List.getElem_mem hj); omega
theorem write_ok (xs : List Bs) (h : xs.length ≤ 64) (hs : small xs) : writeF xs = (mk (encL xs), 0) := by unfold writeF; rw [if_pos ⟨h, hs⟩]
theorem enc_drop (xs : List Bs) (j : Nat) (h : j < xs.length) : mk (encL (xs.drop j)) = (mk (bigL xs[j].size 2) ++ xs[j]) ++ mk (encL (xs.drop (j + 1))) := by
  rw [List.drop_eq_getElem_cons h, big_hd]
  apply ba_ext
  simp only [ByteArray.data_append, Array.toList_append, mk_list, encL, List.append_assoc]
set_option maxHeartbeats 2000000 in
theorem textR_any (v : Value) (xs : List Bs) (w : World) (h : RdE elS w v xs) (hz : ∀ s ∈ xs, s.size ≤ 9223372036854775807) : Calls Try.prog 13 #[v] w (TextQ (writeF xs) w) := by
  have hle := h.len_le
  obtain ⟨a, cap, rfl, h1, h2, h3⟩ := h
  have H3 := Lib.hid h3; clear h3
  have HZ := Lib.hid hz; clear hz
  by_cases hm : 64 < xs.length
  · rw [write_many xs hm]
    go_enter Try.func13, Try.ntmps13
    go_wp2
    go_ret2
    exact ⟨rfl, br _⟩
  · obtain ⟨RES, hRES⟩ : ∃ RES, writeF xs = RES := ⟨_, rfl⟩
    rw [hRES]
    have HRES := Lib.hid hRES; clear hRES
    have hz0 : mk (encL (xs.drop xs.length)) = ⟨#[]⟩ := by rw [List.drop_length]; rfl
    have HZ0 := Lib.hid hz0; clear hz0
    have hl1 : IntKind.i64.wrap ((xs.length : Int) - 1) = (xs.length : Int) - 1 := IntWalk.i64_in _ (by omega)
    go_enter Try.func13, Try.ntmps13
    go_wp2
    go_loopw [4, 5] (fun s i wr => ∃ (k : Nat) (n : Int), k ≤ xs.length ∧ n = (k : Int) - 1 ∧ i = .int .i64 n ∧ s = .string (mk (encL (xs.drop k))) ∧ (∀ j (hj : j < xs.length), k ≤ j → xs[j].size ≤ 400) ∧ Below w.heap.size w wr) (fun _ i _ => (intOf i + 1).toNat)
    case atStart => exact ⟨xs.length, _, Nat.le_refl _, rfl, rfl, by rw [HZ0.out], fun j hj hk => by omega, br w⟩
    case round =>
      obtain ⟨k, n, hk, hn, rfl, rfl, hall, hbw⟩ := hrel
      by_cases hk0 : k = 0
      · have e : n = -1 := by omega
        subst e hk0
        have hR := HRES.out
        rw [write_ok xs (by omega) (fun t ht => by obtain ⟨j, hj, rfl⟩ := List.getElem_of_mem ht; exact hall j hj (by omega))] at hR
        have HR := Lib.hid hR
        clear hall hR H3 HZ HZ0 HRES hn
        rw [List.drop_zero]
        go_wp2
        go_ret2
        exact ⟨by rw [← HR.out]; rfl, hbw⟩
      · obtain ⟨j, rfl⟩ : ∃ j, k = j + 1 := ⟨k - 1, by omega⟩
        have e : n = (j : Int) := by omega
        subst e
        have hj : j < xs.length := by omega
        obtain ⟨g, off, rfl, hbl, hc⟩ := H3.out (by omega)
        have d0 := (hbw.cell (p := ⟨g, off + j, none⟩) hbl).trans (eS_at hc j hj)
        have hsz := HZ.out _ (List.getElem_mem hj)
        have i1 : (j : Int) < (xs.length : Int) := by omega
        have i0 : (0 : Int) ≤ (j : Int) := by omega
        have HBW := Lib.hid hbw; have HALL := Lib.hid hall
        clear hbw hall hc H3 HZ HZ0 hn
        by_cases hb : 400 < xs[j].size
        · have hR := HRES.out
          rw [write_big xs j hj hb] at hR
          have HR := Lib.hid hR
          clear hR HRES HALL
          generalize xs[j] = t at *
          have hb' : (400 : Int) < (t.size : Int) := by omega
          go_wp2
          go_ret2
          exact ⟨by rw [← HR.out]; rfl, HBW.out⟩
        · have hstep : ∀ i (hi : i < xs.length), j ≤ i → xs[i].size ≤ 400 := fun i hi hji => by
            by_cases e : i = j
            · subst e; omega
            · exact HALL.out i hi (by omega)
          have HS := Lib.hid hstep
          have HE := Lib.hid (enc_drop xs j hj)
          have hb' : ¬ (400 : Int) < (xs[j].size : Int) := by omega
          have c1 : ∀ w, Calls Try.prog 31 #[.int .i64 (xs[j].size : Int), .int .i64 2] w fun e w' => e = .returned (.string (mk (bigL xs[j].size 2))) ∧ Below w.heap.size w w' := fun w => big_any xs[j].size 2 (by omega) (by omega) w
          have C1 := Lib.hid c1; clear c1
          have hsS : (mk (encL (xs.drop (j + 1)))).size ≤ 25728 := by
            rw [mk_size]
            have h := encL_len (xs.drop (j + 1)) (fun t ht => by
              obtain ⟨i, hi, rfl⟩ := List.getElem_of_mem ht
              rw [List.getElem_drop]
              exact HALL.out _ (by rw [List.length_drop] at hi; omega) (by omega))
            have h2 : (xs.drop (j + 1)).length ≤ 64 := by rw [List.length_drop]; omega
            omega
          have hsT : (mk (bigL xs[j].size 2)).size = 2 := by rw [mk_size, bigL_len]
          clear hstep HALL HRES
          generalize xs[j] = t at *
          generalize mk (encL (xs.drop (j + 1))) = S at *
          generalize mk (bigL t.size 2) = T at *
          have ct1 := fun w => run_string_add_sum (P := Try.prog) (w := w) T t (by omega)
          have ct2 := fun w => run_string_add_sum (P := Try.prog) (w := w) (T ++ t) S (by rw [ByteArray.size_append]; omega)
          clear hsS hsT
          have hj1 : IntKind.i64.wrap ((j : Int) - 1) = (j : Int) - 1 := IntWalk.i64_in _ (by omega)
          go_wp2_with fail
          go_region_held3 (fun w' => w'.cell? ⟨g, off + j, none⟩ = some (.string t)) (first | go_keep | exact kp b1 d0)
            (first | (go_at_call 31; (with_reducible refine (C1.out _).mono ?_); rintro en w1 ⟨rfl, b1⟩))
          have B1 := Lib.hid (bt HBW.out (bd (br _) b1))
          clear b1
          go_wp2
          go_roundw
          case rel => exact ⟨j, _, by omega, rfl, rfl, by rw [HE.out], HS.out, B1.out⟩
          case measure => simp [intOf]
def ListQ (r : List Bs × Nat) (w : World) (e : Ending) (w' : World) : Prop := ∃ v, e = .returned (.tuple #[v, .int .i64 (r.2 : Int)]) ∧ RdE elS w' v r.1 ∧ Below w.heap.size w w'
def OwnLQ (r : List Bs × Nat) (w : World) (e : Ending) (w' : World) : Prop := ∃ v, e = .returned (.tuple #[v, .int .i64 (r.2 : Int)]) ∧ ROwn elS w' w.heap.size v r.1 ∧ Below w.heap.size w w'
theorem rd_len (k : Nat) (s : Bs) : (rd k s.data.toList).2 ≤ s.size := (rd_was k s.data.toList).2.2.1
set_option maxHeartbeats 2000000 in
theorem ofR_own : ∀ (k : Nat), k ≤ 64 → ∀ (s : Bs), s.size ≤ 9223372036854775807 → ∀ (w : World), Calls Try.prog 14 #[.string s, .int .i64 (k : Int)] w (OwnLQ (rd k s.data.toList) w) := by
  intro k
  induction k with
  | zero =>
    intro _ s hs w
    rw [rd_zero]
    have q : ((((0 : Nat) : Int)) == 0) = true := by decide
    have HN := Lib.hid (fun w' => ROwn.nil (E := elS) w' w.heap.size)
    go_enter Try.func14, Try.ntmps14
    go_wp2
    go_ret2
    exact ⟨_, rfl, HN.out _, br _⟩
  | succ k ih =>
    intro hk s hs w
    have q : ((((k + 1 : Nat)) : Int) == 0) = false := by rw [beq_eq_false_iff_ne]; omega
    have HN := Lib.hid (fun w' => ROwn.nil (E := elS) w' w.heap.size)
    by_cases h2 : s.size < 2
    · rw [rd_short _ _ (by simpa using h2)]
      have h2' : (s.size : Int) < 2 := by omega
      go_enter Try.func14, Try.ntmps14
      go_wp2
      go_ret2
      exact ⟨_, rfl, HN.out _, br _⟩
    · rw [rd_ba k s (by omega)]
      have h2' : ¬ (s.size : Int) < 2 := by omega
      have C1 := Lib.hid (fun w => num_any (s.extract 0 2) (by simp; omega) w)
      have hn := num2_lt s
      have hnd : numL (s.extract 0 2).data.toList = num2 s := rfl
      rw [hnd] at C1
      clear hnd
      by_cases hc : num2 s ≤ 400 ∧ 2 + num2 s ≤ s.size
      · rw [if_pos hc]
        obtain ⟨hc1, hc2⟩ := hc
        have IH := Lib.hid (fun w => ih (by omega) (s.extract (2 + num2 s) s.size) (by simp; omega) w)
        have hln := rd_len k (s.extract (2 + num2 s) s.size)
        have hlk := (rd_was k (s.extract (2 + num2 s) s.size).data.toList).1
        have hsx : (s.extract (2 + num2 s) s.size).size ≤ s.size := by simp
        obtain ⟨R, hR⟩ : ∃ R, rd k (s.extract (2 + num2 s) s.size).data.toList = R := ⟨_, rfl⟩
        rw [hR] at hln hlk ⊢
        simp only [hR] at IH
        clear hR ih
        have hb2 : (2 : Int) + ((num2 s : Nat) : Int) + (R.2 : Int) ≤ 9223372036854775807 := by simp at hln; omega
        generalize num2 s = n at *
        have hc1' : ¬ (400 : Int) < (n : Int) := by omega
        have hc2' : ¬ (s.size : Int) < 2 + (n : Int) := by omega
        have hw1 : IntKind.i64.wrap (2 + (n : Int)) = ((2 + n : Nat) : Int) := by rw [IntWalk.i64_in _ (by omega)]; omega
        have hw2 : IntKind.i64.wrap (((k + 1 : Nat) : Int) - 1) = (k : Int) := by rw [IntWalk.i64_in _ (by omega)]; omega
        go_enter Try.func14, Try.ntmps14
        go_wp2_with fail
        refine (C1.out _).mono ?_
        rintro en w1 ⟨rfl, b1⟩
        have B1 := Lib.hid b1
        clear b1
        go_wp2_with fail
        refine (IH.out _).mono ?_
        rintro en w2 ⟨v, rfl, r2, b2⟩
        have B2 := Lib.hid (bt B1.out b2)
        have R2 := Lib.hid r2.rd
        clear b2 r2
        have hsl : ∀ w, (Instr.slice 9 (.string s) (some (.int .i64 2)) (some (.int .i64 (2 + (n : Int)))) none).run Try.prog w = .ok (.string (s.extract 2 (2 + n))) w := fun w => by
          have := run_slice_string (P := Try.prog) (w := w) 9 s .i64 .i64 2 (2 + (n : Int)) Try.underlying9 (by omega) (by omega) (by omega)
          rw [this]
          have e : (2 + (n : Int)).toNat = 2 + n := by omega
          rw [e]; rfl
        obtain ⟨X, hX⟩ : ∃ X, s.extract 2 (2 + n) = X := ⟨_, rfl⟩
        rw [hX]
        simp only [hX] at hsl
        have HL : RowKit.Hid (ROwn elS (w2.alloc (.cells #[.string X] 9)) w.heap.size (.slice (some ⟨w2.heap.size, 0, none⟩) 1 1) [X]) := Lib.hid (ROwn.lit (E := elS) [X] w2 w.heap.size w2.heap.size rfl B2.out.size (by unfold maxLen; simp))
        have HR3 := Lib.hid (R2.out.below ((br w2).alloc (Nat.le_refl _) (.cells #[.string X] 9)))
        have HB3 := Lib.hid (B2.out.alloc B2.out.size (.cells #[.string X] 9))
        have HX := Lib.hid hX
        clear hX
        go_wp2_with (at_builtin; refine appE elS rfl (.tmp 42) (.tmp 43) rfl w.heap.size _ [X] rfl HL.out _ R.1 rfl HR3.out (by unfold maxLen; simp; omega) (by show _ * 16 ≤ _; simp; omega) HB3.out.size ?_; intro v1 w5 hown1 hb5 hfar5; have HO1 := Lib.hid hown1; have HB5 := Lib.hid (HB3.out.trans hb5); clear hown1 hfar5 hb5)
        go_ret2
        have e : ((2 + n + R.2 : Nat) : Int) = 2 + (n : Int) + (R.2 : Int) := by omega
        exact ⟨v1, by first | rfl | (rw [e]; rfl), by rw [HX.out]; exact HO1.out, HB5.out⟩
      · rw [if_neg hc]
        have hcc : 400 < num2 s ∨ (num2 s ≤ 400 ∧ s.size < 2 + num2 s) := by omega
        generalize num2 s = n at *
        rcases hcc with hcc | ⟨hcc1, hcc2⟩
        · have hc1' : (400 : Int) < (n : Int) := by omega
          go_enter Try.func14, Try.ntmps14
          go_wp2_with fail
          refine (C1.out _).mono ?_
          rintro en w1 ⟨rfl, b1⟩
          go_wp2
          go_ret2
          exact ⟨_, rfl, HN.out _, b1⟩
        · have hc1' : ¬ (400 : Int) < (n : Int) := by omega
          have hc2' : (s.size : Int) < 2 + (n : Int) := by omega
          have hw1 : IntKind.i64.wrap (2 + (n : Int)) = 2 + (n : Int) := IntWalk.i64_in _ (by omega)
          go_enter Try.func14, Try.ntmps14
          go_wp2_with fail
          refine (C1.out _).mono ?_
          rintro en w1 ⟨rfl, b1⟩
          go_wp2
          go_ret2
          exact ⟨_, rfl, HN.out _, b1⟩
theorem ofR_any (k : Nat) (hk : k ≤ 64) (s : Bs) (hs : s.size ≤ 9223372036854775807) (w : World) : Calls Try.prog 14 #[.string s, .int .i64 (k : Int)] w (ListQ (rd k s.data.toList) w) := (ofR_own k hk s hs w).mono (fun _ _ ⟨v, h1, h2, h3⟩ => ⟨v, h1, h2.rd, h3⟩)
end Fr
end Go.Proofs.Ytlpefkbgdbiinaa
