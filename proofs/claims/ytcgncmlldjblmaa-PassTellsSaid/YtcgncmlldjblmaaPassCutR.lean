/- Passes: the document's: one that is cut. (gen_pass3.py) -/
import Derived.Test.YtcgncmlldjblmaaPassPlain2
import Derived.Deep.RegionHeld3
set_option linter.unusedSimpArgs false
set_option linter.unusedVariables false
namespace Go.Proofs.Ytcgncmlldjblmaa
open Go.RowKit
namespace Pa
open Dt Sn
def cutS (n : Int) (s : Sp) : List Sp := if s.1 < min s.2 n then [(s.1, min s.2 n)] else []
theorem cutL_snoc (n : Int) (s : Sp) : ∀ l : List Sp, cutL n (l ++ [s]) = cutL n l ++ cutS n s
  | [] => rfl
  | u :: l => by
    rw [List.cons_append, cutL, cutL, cutL_snoc n s l]
    split <;> rfl
theorem cutL_take (n : Int) (l : List Sp) (k : Nat) (h : k < l.length) : cutL n (l.take (k + 1)) = cutL n (l.take k) ++ cutS n l[k] := by
  rw [List.take_succ_eq_append_getElem h, cutL_snoc]
theorem own_shapeS {w : World} {base : Nat} {v : Value} {xs : List Sp} (h : ROwn elS w base v xs) : ∃ a c, v = .slice a xs.length c := by
  obtain ⟨x, c, e, _⟩ := h.rd
  exact ⟨x, c, e⟩
theorem own_setS {w : World} {base : Nat} {v : Value} {xs : List Sp} (h : ROwn elS w base v xs) (b j : Nat) (x : Value) (hb : b < base) : ROwn elS (w.setCell ⟨b, j, none⟩ x) base v xs := by
  obtain ⟨hl, h | ⟨g, cap, cur, h1, h2, h3, h4, h5, h6, h7⟩⟩ := h
  · exact ⟨hl, .inl h⟩
  · exact ⟨hl, .inr ⟨g, cap, cur, h1, h2, by rw [Below.heap_setCell _ _ _ _ (show g ≠ b by omega)]; exact h3, h4, h5, h6, h7⟩⟩
set_option maxRecDepth 100000 in
set_option maxHeartbeats 4000000 in
theorem cutR_bad (p : Ps) (d : Value) (l : List Sp) (n : Int) (w : World) (h : RdE elS w d l) (c : passE p l ≠ 0) : Calls Try.prog 13 #[aP p d, .int .i64 n] w (R3Q (.slice none 0 0) ((p0, []), 0, passE p l) w) := by
  have C1 := Lib.hid (fun w' (hb : Below w.heap.size w w') => checkR_any p d l w' (h.below hb))
  have HI := Lib.hid (fun w => noDay_any n w)
  obtain ⟨id, born, a, b, ser⟩ := p
  have HV := Lib.hid h
  obtain ⟨E, hE⟩ : ∃ E, passE ⟨id, born, a, b, ser⟩ l = E := ⟨_, rfl⟩
  rw [hE] at C1 c ⊢
  clear hE HI
  obtain ⟨x, cap, rfl, _, _, _⟩ := h
  have HA := Lib.hid (((br w).alloc (Nat.le_refl _) (.cells #[.int .i64 id, .int .i64 born, .int .i64 a, .int .i64 b, .int .i64 ser, .slice x l.length cap] 24)).alloc (by simp) (.cells #[.int .i64 0, .int .i64 0, .int .i64 0, .int .i64 0, .int .i64 0, .slice none 0 0] 24))
  have hx : Pb (w.alloc (.cells #[.int .i64 id, .int .i64 born, .int .i64 a, .int .i64 b, .int .i64 ser, .slice x l.length cap] 24)) w.heap.size ⟨id, born, a, b, ser⟩ (.slice x l.length cap) := Box.new w _ _
  have HX := Lib.hid (Box.alloc hx (.cells #[.int .i64 0, .int .i64 0, .int .i64 0, .int .i64 0, .int .i64 0, .slice none 0 0] 24))
  have hy : Pb ((w.alloc (.cells #[.int .i64 id, .int .i64 born, .int .i64 a, .int .i64 b, .int .i64 ser, .slice x l.length cap] 24)).alloc (.cells #[.int .i64 0, .int .i64 0, .int .i64 0, .int .i64 0, .int .i64 0, .slice none 0 0] 24)) (w.alloc (.cells #[.int .i64 id, .int .i64 born, .int .i64 a, .int .i64 b, .int .i64 ser, .slice x l.length cap] 24)).heap.size ⟨0, 0, 0, 0, 0⟩ (.slice none 0 0) := Box.new _ _ _
  rw [asz] at hy
  have HY := Lib.hid hy
  clear hy hx
  have hz : (E == 0) = false := by simpa using c
  go_enter Try.func13, Try.ntmps13
  go_wp2_with fail
  refine (C1.out _ (by first | exact HA.out | exact bn HA.out _)).mono ?_
  rintro en w2 ⟨rfl, b2⟩
  have HB := Lib.hid (bt HA.out b2)
  have hx := HX.out.next b2
  have hy := HY.out.next b2
  have hlt := hy.lt
  have hlt0 := hx.lt
  have z0 := hy.cell 0; have z1 := hy.cell 1; have z2 := hy.cell 2; have z3 := hy.cell 3; have z4 := hy.cell 4; have z5 := hy.cell 5
  simp only [List.getElem?_cons_zero, List.getElem?_cons_succ] at z0 z1 z2 z3 z4 z5
  have f0 := hy.froz 0; have f1 := hy.froz 1; have f2 := hy.froz 2; have f3 := hy.froz 3; have f4 := hy.froz 4; have f5 := hy.froz 5
  have HY2 := Lib.hid hy
  clear b2 hx hy HX HA HY C1
  go_wp2
  have P := Pb.put HY2.out ⟨0, 0, 0, 0, 0⟩ (.slice none 0 0)
  have Q := below6 HB.out (b := w.heap.size + 1) (by omega) (.int .i64 0) (.int .i64 0) (.int .i64 0) (.int .i64 0) (.int .i64 0) (.slice none 0 0)
  generalize (((((w2.setCell ⟨w.heap.size + 1, 0, none⟩ (.int .i64 0)).setCell ⟨w.heap.size + 1, 1, none⟩ (.int .i64 0)).setCell ⟨w.heap.size + 1, 2, none⟩ (.int .i64 0)).setCell ⟨w.heap.size + 1, 3, none⟩ (.int .i64 0)).setCell ⟨w.heap.size + 1, 4, none⟩ (.int .i64 0)).setCell ⟨w.heap.size + 1, 5, none⟩ (.slice none 0 0) = W2 at P Q ⊢
  have y0 := P.cell 0; have y1 := P.cell 1; have y2 := P.cell 2; have y3 := P.cell 3; have y4 := P.cell 4; have y5 := P.cell 5
  simp only [List.getElem?_cons_zero, List.getElem?_cons_succ] at y0 y1 y2 y3 y4 y5
  refine bodyPost_ret (v := .tuple #[aP ⟨0, 0, 0, 0, 0⟩ (.slice none 0 0), .int .i64 0, .int .i64 E]) (by simp [results, Try.results13, go_sem, y0, y1, y2, y3, y4, y5]) rfl ⟨_, rfl, rd_nil _, fun _ _ _ => off_nil _, Q⟩
set_option maxRecDepth 100000 in
set_option maxHeartbeats 4000000 in
theorem cutR_day (p : Ps) (d : Value) (l : List Sp) (n : Int) (w : World) (h : RdE elS w d l) (c : passE p l = 0) (hD : isD n = false) : Calls Try.prog 13 #[aP p d, .int .i64 n] w (R3Q (.slice none 0 0) ((p0, []), 0, 3) w) := by
  have C1 := Lib.hid (fun w' (hb : Below w.heap.size w w') => checkR_any p d l w' (h.below hb))
  have HI := Lib.hid (fun w => noDay_any n w)
  obtain ⟨id, born, a, b, ser⟩ := p
  have HV := Lib.hid h
  rw [c] at C1
  rw [hD] at HI
  clear hD c
  obtain ⟨x, cap, rfl, _, _, _⟩ := h
  have HA := Lib.hid (((br w).alloc (Nat.le_refl _) (.cells #[.int .i64 id, .int .i64 born, .int .i64 a, .int .i64 b, .int .i64 ser, .slice x l.length cap] 24)).alloc (by simp) (.cells #[.int .i64 0, .int .i64 0, .int .i64 0, .int .i64 0, .int .i64 0, .slice none 0 0] 24))
  have hx : Pb (w.alloc (.cells #[.int .i64 id, .int .i64 born, .int .i64 a, .int .i64 b, .int .i64 ser, .slice x l.length cap] 24)) w.heap.size ⟨id, born, a, b, ser⟩ (.slice x l.length cap) := Box.new w _ _
  have HX := Lib.hid (Box.alloc hx (.cells #[.int .i64 0, .int .i64 0, .int .i64 0, .int .i64 0, .int .i64 0, .slice none 0 0] 24))
  have hy : Pb ((w.alloc (.cells #[.int .i64 id, .int .i64 born, .int .i64 a, .int .i64 b, .int .i64 ser, .slice x l.length cap] 24)).alloc (.cells #[.int .i64 0, .int .i64 0, .int .i64 0, .int .i64 0, .int .i64 0, .slice none 0 0] 24)) (w.alloc (.cells #[.int .i64 id, .int .i64 born, .int .i64 a, .int .i64 b, .int .i64 ser, .slice x l.length cap] 24)).heap.size ⟨0, 0, 0, 0, 0⟩ (.slice none 0 0) := Box.new _ _ _
  rw [asz] at hy
  have HY := Lib.hid hy
  clear hy hx
  go_enter Try.func13, Try.ntmps13
  go_wp2_with fail
  refine (C1.out _ (by first | exact HA.out | exact bn HA.out _)).mono ?_
  rintro en w2 ⟨rfl, b2⟩
  have HB := Lib.hid (bt HA.out b2)
  have hx := HX.out.next b2
  have hy := HY.out.next b2
  have hlt := hy.lt
  have hlt0 := hx.lt
  have z0 := hy.cell 0; have z1 := hy.cell 1; have z2 := hy.cell 2; have z3 := hy.cell 3; have z4 := hy.cell 4; have z5 := hy.cell 5
  simp only [List.getElem?_cons_zero, List.getElem?_cons_succ] at z0 z1 z2 z3 z4 z5
  have f0 := hy.froz 0; have f1 := hy.froz 1; have f2 := hy.froz 2; have f3 := hy.froz 3; have f4 := hy.froz 4; have f5 := hy.froz 5
  have HY2 := Lib.hid hy
  clear b2 hx hy HX HA HY C1
  go_wp2_with (first | (go_at_call 32; (with_reducible refine (HI.out _).mono ?_); rintro en w3 ⟨rfl, rfl⟩))
  have P := Pb.put HY2.out ⟨0, 0, 0, 0, 0⟩ (.slice none 0 0)
  have Q := below6 HB.out (b := w.heap.size + 1) (by omega) (.int .i64 0) (.int .i64 0) (.int .i64 0) (.int .i64 0) (.int .i64 0) (.slice none 0 0)
  generalize (((((w2.setCell ⟨w.heap.size + 1, 0, none⟩ (.int .i64 0)).setCell ⟨w.heap.size + 1, 1, none⟩ (.int .i64 0)).setCell ⟨w.heap.size + 1, 2, none⟩ (.int .i64 0)).setCell ⟨w.heap.size + 1, 3, none⟩ (.int .i64 0)).setCell ⟨w.heap.size + 1, 4, none⟩ (.int .i64 0)).setCell ⟨w.heap.size + 1, 5, none⟩ (.slice none 0 0) = W2 at P Q ⊢
  have y0 := P.cell 0; have y1 := P.cell 1; have y2 := P.cell 2; have y3 := P.cell 3; have y4 := P.cell 4; have y5 := P.cell 5
  simp only [List.getElem?_cons_zero, List.getElem?_cons_succ] at y0 y1 y2 y3 y4 y5
  refine bodyPost_ret (v := .tuple #[aP ⟨0, 0, 0, 0, 0⟩ (.slice none 0 0), .int .i64 0, .int .i64 3]) (by simp [results, Try.results13, go_sem, y0, y1, y2, y3, y4, y5]) rfl ⟨_, rfl, rd_nil _, fun _ _ _ => off_nil _, Q⟩
set_option maxRecDepth 100000 in
set_option maxHeartbeats 4000000 in
theorem cutR_yes (p : Ps) (d : Value) (l : List Sp) (n : Int) (w : World) (h : RdE elS w d l) (c : passE p l = 0) (hD : isD n = true) : Calls Try.prog 13 #[aP p d, .int .i64 n] w (R3Q (.slice none 0 0) ((p, cutL n l), days l - days (cutL n l), 0) w) := by
  obtain ⟨_, hk, h3⟩ := passE_ok.1 c
  have hl64 := ((chkS_ok l).1 hk).1
  have hk2 := cutL_chk n hk h3
  have C5 := Lib.hid (fun w' (hb : Below w.heap.size w w') => daysOf_any d l w' (h.below hb) ((chkS_ok l).1 hk).2.1 (by omega))
  have C6 := Lib.hid (fun d w' h => daysOf_any d (cutL n l) w' h ((chkS_ok _).1 hk2).2.1 (by have := ((chkS_ok _).1 hk2).1; omega))
  have hw1 := days_ge hk; have hw2 := days_ge hk2
  obtain ⟨A, hA⟩ : ∃ A, days l = A := ⟨_, rfl⟩
  obtain ⟨B, hB⟩ : ∃ B, days (cutL n l) = B := ⟨_, rfl⟩
  rw [hA] at C5 hw1 ⊢
  rw [hB] at C6 hw2 ⊢
  have hAB : IntKind.i64.wrap (A - B) = A - B := IntWalk.i64_in _ (by omega)
  obtain ⟨M, hM⟩ : ∃ M, cutL n l = M := ⟨_, rfl⟩
  rw [hM] at C6 ⊢
  have HM := Lib.hid hM
  clear hA hB hk h3 hk2 hw1 hw2 hM
  have C1 := Lib.hid (fun w' (hb : Below w.heap.size w w') => checkR_any p d l w' (h.below hb))
  have HI := Lib.hid (fun w => noDay_any n w)
  obtain ⟨id, born, a, b, ser⟩ := p
  have HV := Lib.hid h
  rw [c] at C1
  rw [hD] at HI
  clear hD c
  obtain ⟨x, cap, rfl, _, _, g3⟩ := h
  have G3 := Lib.hid g3
  clear g3
  have HA := Lib.hid (((br w).alloc (Nat.le_refl _) (.cells #[.int .i64 id, .int .i64 born, .int .i64 a, .int .i64 b, .int .i64 ser, .slice x l.length cap] 24)).alloc (by simp) (.cells #[.int .i64 0, .int .i64 0, .int .i64 0, .int .i64 0, .int .i64 0, .slice none 0 0] 24))
  have hx : Pb (w.alloc (.cells #[.int .i64 id, .int .i64 born, .int .i64 a, .int .i64 b, .int .i64 ser, .slice x l.length cap] 24)) w.heap.size ⟨id, born, a, b, ser⟩ (.slice x l.length cap) := Box.new w _ _
  have HX := Lib.hid (Box.alloc hx (.cells #[.int .i64 0, .int .i64 0, .int .i64 0, .int .i64 0, .int .i64 0, .slice none 0 0] 24))
  have hy : Pb ((w.alloc (.cells #[.int .i64 id, .int .i64 born, .int .i64 a, .int .i64 b, .int .i64 ser, .slice x l.length cap] 24)).alloc (.cells #[.int .i64 0, .int .i64 0, .int .i64 0, .int .i64 0, .int .i64 0, .slice none 0 0] 24)) (w.alloc (.cells #[.int .i64 id, .int .i64 born, .int .i64 a, .int .i64 b, .int .i64 ser, .slice x l.length cap] 24)).heap.size ⟨0, 0, 0, 0, 0⟩ (.slice none 0 0) := Box.new _ _ _
  rw [asz] at hy
  have HY := Lib.hid hy
  clear hy hx
  go_enter Try.func13, Try.ntmps13
  go_wp2_with fail
  refine (C1.out _ (by first | exact HA.out | exact bn HA.out _)).mono ?_
  rintro en w2 ⟨rfl, b2⟩
  have HB := Lib.hid (bt HA.out b2)
  have hx := HX.out.next b2
  have hy := HY.out.next b2
  have hlt := hy.lt
  have hlt0 := hx.lt
  have k0 := hx.cell 0; have k1 := hx.cell 1; have k2 := hx.cell 2; have k3 := hx.cell 3; have k4 := hx.cell 4; have k5 := hx.cell 5
  simp only [List.getElem?_cons_zero, List.getElem?_cons_succ] at k0 k1 k2 k3 k4 k5
  have HX2 := Lib.hid hx; have HY2 := Lib.hid hy
  clear b2 hx hy HX HA HY C1
  go_wp2_with (first | (go_at_call 32; (with_reducible refine (HI.out _).mono ?_); rintro en w3 ⟨rfl, rfl⟩))
  clear HI k0 k1 k2 k3 k4 k5
  go_loopw [9] (fun i wr => ∃ (k : Nat) (u : Value), k ≤ l.length ∧ i = .int .i64 k ∧ Box wr w2.heap.size 24 [.int .i64 id, .int .i64 born, .int .i64 a, .int .i64 b, .int .i64 ser, u] ∧ ROwn elS wr (w2.heap.size + 1) u (cutL n (l.take k)) ∧ Below w.heap.size w wr ∧ Box wr w.heap.size 24 [.int .i64 id, .int .i64 born, .int .i64 a, .int .i64 b, .int .i64 ser, .slice x l.length cap] ∧ Box wr (w.heap.size + 1) 24 [.int .i64 0, .int .i64 0, .int .i64 0, .int .i64 0, .int .i64 0, .slice none 0 0]) (fun i _ => l.length - (intOf i).toNat)
  case atStart => exact ⟨0, .slice none 0 0, Nat.zero_le _, rfl, Box.new _ _ _, ROwn.nil _ _, HB.out.alloc HB.out.size _, HX2.out.alloc _, HY2.out.alloc _⟩
  case round =>
    obtain ⟨k, u, hk, rfl, hbox, hown, hbw, hx, hy⟩ := hrel
    have k5 := hx.cell 5
    simp only [List.getElem?_cons_zero, List.getElem?_cons_succ] at k5
    have HW := Lib.hid hbw; have HXr := Lib.hid hx; have HYr := Lib.hid hy
    clear hx hy HX2 HY2
    by_cases hkl : k < l.length
    · obtain ⟨g, off, rfl, hbl, hc⟩ := G3.out (by omega)
      obtain ⟨q0, q1⟩ := eS_at hc k hkl
      have d0 := (hbw.cell (p := ⟨g, off + k * 2, none⟩) hbl).trans q0
      have d1 := (hbw.cell (p := ⟨g, off + k * 2 + 1, none⟩) hbl).trans q1
      have i1 : (k : Int) < (l.length : Int) := by omega
      have i0 : (0 : Int) ≤ (k : Int) := by omega
      have hs := cutL_take n l k hkl
      have hn := cutL_len n (l.take k)
      rw [List.length_take] at hn
      generalize l[k] = s at *
      obtain ⟨P, Q⟩ := s
      simp only at d0 d1
      obtain ⟨C, hC⟩ : ∃ C, cutL n (l.take k) = C := ⟨_, rfl⟩
      rw [hC] at hown hs hn
      obtain ⟨N, hN⟩ : ∃ N, C.length = N := ⟨_, rfl⟩
      rw [hN] at hn
      have HNL := Lib.hid hN
      have HS := Lib.hid hs
      clear hc q0 q1 hbw hs hC hN C5 C6 G3
      by_cases c1 : n < Q
      · have hm : min Q n = n := by omega
        by_cases c2 : P < n
        · have HS2 := HS.out
          rw [show cutS n (P, Q) = [(P, n)] by unfold cutS; simp only; rw [hm, if_pos c2]] at HS2
          have HS3 := Lib.hid HS2
          clear HS2
          have hbox2 := hbox.alloc (.cells #[.int .i64 P, .int .i64 n] 51)
          have f2 := hbox2.cell 5
          simp only [List.getElem?_cons_zero, List.getElem?_cons_succ] at f2
          have hown2 : ROwn elS (wr.alloc (.cells #[.int .i64 P, .int .i64 n] 51)) (w2.heap.size + 1) u C := hown.next ((br _).alloc (Nat.le_refl _) _)
          have HBL : RowKit.Hid (Below w.heap.size w (wr.alloc (.cells #[.int .i64 P, .int .i64 n] 51))) := Lib.hid (HW.out.alloc HW.out.size _)
          have hlt := hbox.lt
          have HBX := Lib.hid hbox2; have HON := Lib.hid hown2; have HX2 := Lib.hid (HXr.out.alloc (.cells #[.int .i64 P, .int .i64 n] 51)); have HY2 := Lib.hid (HYr.out.alloc (.cells #[.int .i64 P, .int .i64 n] 51))
          have HSZ : RowKit.Hid (w2.heap.size + 1 ≤ (wr.alloc (.cells #[.int .i64 P, .int .i64 n] 51)).heap.size) := Lib.hid (by simp; omega)
          clear hbox hown hbox2 hown2 hlt HXr HYr
          go_wp2_with (at_builtin; refine appE elS rfl (.tmp 49) (.tmp 51) rfl (w2.heap.size + 1) u _ rfl (HON.out.next ((br _).alloc (Nat.le_refl _) _)) _ [(P, n)] rfl (rd_lit elS [(P, n)] _ _ _ _ (by simp) (by simp [maxLen])) (by rw [HNL.out]; show N + 1 ≤ _; unfold maxLen; omega) (by rw [HNL.out]; show (N + 1) * 16 ≤ _; omega) (by have := HSZ.out; simp at this ⊢; omega) ?_; intro v5 w5 hown5 hb5 hfar5; have hsh := own_shapeS hown5; rw [show (C ++ [(P, n)]).length = N + 1 by rw [List.length_append, HNL.out]; rfl] at hsh; obtain ⟨a5, c5, rfl⟩ := hsh; have hbx5 := (HBX.out.alloc (.cells #[.int .i64 P, .int .i64 n] 51)).of_block (hb5.block w2.heap.size (by omega)); have hc1 := hbx5.cell 5; have hf1 := hbx5.froz 5; simp only [List.getElem?_cons_zero, List.getElem?_cons_succ] at hc1; have HO5 := Lib.hid hown5; have HB5 := Lib.hid hb5; have HX5 := Lib.hid hbx5; have HP5 := Lib.hid ((HX2.out.alloc (.cells #[.int .i64 P, .int .i64 n] 51)).of_block (hb5.block w.heap.size (by omega))); have HY5 := Lib.hid ((HY2.out.alloc (.cells #[.int .i64 P, .int .i64 n] 51)).of_block (hb5.block (w.heap.size + 1) (by omega))); clear hown5 hfar5 hb5 hbx5)
          have HX6 := Lib.hid (HX5.out.set 5 (.slice a5 (N + 1) c5))
          have HB6 : RowKit.Hid (Below w.heap.size w (w5.setCell ⟨w2.heap.size, 5, none⟩ (.slice a5 (N + 1) c5))) := Lib.hid (((HBL.out.alloc HBL.out.size _).trans (HB5.out.mono (by omega))).setCell (by show w.heap.size ≤ w2.heap.size; omega) _)
          have HO6 : RowKit.Hid (ROwn elS (w5.setCell ⟨w2.heap.size, 5, none⟩ (.slice a5 (N + 1) c5)) (w2.heap.size + 1) (.slice a5 (N + 1) c5) (cutL n (l.take (k + 1)))) := Lib.hid (by
            rw [HS3.out]
            exact own_setS HO5.out _ _ _ (by omega))
          have HP6 := Lib.hid (HP5.out.other w2.heap.size 5 (.slice a5 (N + 1) c5) (by omega))
          have HY6 := Lib.hid (HY5.out.other w2.heap.size 5 (.slice a5 (N + 1) c5) (by omega))
          go_roundw
          case rel => exact ⟨k + 1, _, by omega, by go_num, HX6.out, HO6.out, HB6.out, HP6.out, HY6.out⟩
          case measure => simp [intOf]; omega
        · have HS2 := HS.out
          rw [show cutS n (P, Q) = [] by unfold cutS; simp only; rw [hm, if_neg c2], List.append_nil] at HS2
          have HS3 := Lib.hid HS2
          clear HS2
          have HBX := Lib.hid (hbox.alloc (.cells #[.int .i64 P, .int .i64 n] 51))
          have HON : RowKit.Hid (ROwn elS (wr.alloc (.cells #[.int .i64 P, .int .i64 n] 51)) (w2.heap.size + 1) u (cutL n (l.take (k + 1)))) := Lib.hid (by rw [HS3.out]; exact hown.next ((br _).alloc (Nat.le_refl _) _))
          have HBL : RowKit.Hid (Below w.heap.size w (wr.alloc (.cells #[.int .i64 P, .int .i64 n] 51))) := Lib.hid (HW.out.alloc HW.out.size _)
          have HX2 := Lib.hid (HXr.out.alloc (.cells #[.int .i64 P, .int .i64 n] 51)); have HY2 := Lib.hid (HYr.out.alloc (.cells #[.int .i64 P, .int .i64 n] 51))
          clear hbox hown HXr HYr
          go_wp2
          go_roundw
          case rel => exact ⟨k + 1, _, by omega, by go_num, HBX.out, HON.out, HBL.out, HX2.out, HY2.out⟩
          case measure => simp [intOf]; omega
      · have hm : min Q n = Q := by omega
        have c1' : Q ≤ n := by omega
        by_cases c2 : P < Q
        · have HS2 := HS.out
          rw [show cutS n (P, Q) = [(P, Q)] by unfold cutS; simp only; rw [hm, if_pos c2]] at HS2
          have HS3 := Lib.hid HS2
          clear HS2
          have hbox2 := hbox.alloc (.cells #[.int .i64 P, .int .i64 Q] 51)
          have f2 := hbox2.cell 5
          simp only [List.getElem?_cons_zero, List.getElem?_cons_succ] at f2
          have hown2 : ROwn elS (wr.alloc (.cells #[.int .i64 P, .int .i64 Q] 51)) (w2.heap.size + 1) u C := hown.next ((br _).alloc (Nat.le_refl _) _)
          have HBL : RowKit.Hid (Below w.heap.size w (wr.alloc (.cells #[.int .i64 P, .int .i64 Q] 51))) := Lib.hid (HW.out.alloc HW.out.size _)
          have hlt := hbox.lt
          have HBX := Lib.hid hbox2; have HON := Lib.hid hown2; have HX2 := Lib.hid (HXr.out.alloc (.cells #[.int .i64 P, .int .i64 Q] 51)); have HY2 := Lib.hid (HYr.out.alloc (.cells #[.int .i64 P, .int .i64 Q] 51))
          have HSZ : RowKit.Hid (w2.heap.size + 1 ≤ (wr.alloc (.cells #[.int .i64 P, .int .i64 Q] 51)).heap.size) := Lib.hid (by simp; omega)
          clear hbox hown hbox2 hown2 hlt HXr HYr
          go_wp2_with (at_builtin; refine appE elS rfl (.tmp 49) (.tmp 51) rfl (w2.heap.size + 1) u _ rfl (HON.out.next ((br _).alloc (Nat.le_refl _) _)) _ [(P, Q)] rfl (rd_lit elS [(P, Q)] _ _ _ _ (by simp) (by simp [maxLen])) (by rw [HNL.out]; show N + 1 ≤ _; unfold maxLen; omega) (by rw [HNL.out]; show (N + 1) * 16 ≤ _; omega) (by have := HSZ.out; simp at this ⊢; omega) ?_; intro v5 w5 hown5 hb5 hfar5; have hsh := own_shapeS hown5; rw [show (C ++ [(P, Q)]).length = N + 1 by rw [List.length_append, HNL.out]; rfl] at hsh; obtain ⟨a5, c5, rfl⟩ := hsh; have hbx5 := (HBX.out.alloc (.cells #[.int .i64 P, .int .i64 Q] 51)).of_block (hb5.block w2.heap.size (by omega)); have hc1 := hbx5.cell 5; have hf1 := hbx5.froz 5; simp only [List.getElem?_cons_zero, List.getElem?_cons_succ] at hc1; have HO5 := Lib.hid hown5; have HB5 := Lib.hid hb5; have HX5 := Lib.hid hbx5; have HP5 := Lib.hid ((HX2.out.alloc (.cells #[.int .i64 P, .int .i64 Q] 51)).of_block (hb5.block w.heap.size (by omega))); have HY5 := Lib.hid ((HY2.out.alloc (.cells #[.int .i64 P, .int .i64 Q] 51)).of_block (hb5.block (w.heap.size + 1) (by omega))); clear hown5 hfar5 hb5 hbx5)
          have HX6 := Lib.hid (HX5.out.set 5 (.slice a5 (N + 1) c5))
          have HB6 : RowKit.Hid (Below w.heap.size w (w5.setCell ⟨w2.heap.size, 5, none⟩ (.slice a5 (N + 1) c5))) := Lib.hid (((HBL.out.alloc HBL.out.size _).trans (HB5.out.mono (by omega))).setCell (by show w.heap.size ≤ w2.heap.size; omega) _)
          have HO6 : RowKit.Hid (ROwn elS (w5.setCell ⟨w2.heap.size, 5, none⟩ (.slice a5 (N + 1) c5)) (w2.heap.size + 1) (.slice a5 (N + 1) c5) (cutL n (l.take (k + 1)))) := Lib.hid (by
            rw [HS3.out]
            exact own_setS HO5.out _ _ _ (by omega))
          have HP6 := Lib.hid (HP5.out.other w2.heap.size 5 (.slice a5 (N + 1) c5) (by omega))
          have HY6 := Lib.hid (HY5.out.other w2.heap.size 5 (.slice a5 (N + 1) c5) (by omega))
          go_roundw
          case rel => exact ⟨k + 1, _, by omega, by go_num, HX6.out, HO6.out, HB6.out, HP6.out, HY6.out⟩
          case measure => simp [intOf]; omega
        · have HS2 := HS.out
          rw [show cutS n (P, Q) = [] by unfold cutS; simp only; rw [hm, if_neg c2], List.append_nil] at HS2
          have HS3 := Lib.hid HS2
          clear HS2
          have HBX := Lib.hid (hbox.alloc (.cells #[.int .i64 P, .int .i64 Q] 51))
          have HON : RowKit.Hid (ROwn elS (wr.alloc (.cells #[.int .i64 P, .int .i64 Q] 51)) (w2.heap.size + 1) u (cutL n (l.take (k + 1)))) := Lib.hid (by rw [HS3.out]; exact hown.next ((br _).alloc (Nat.le_refl _) _))
          have HBL : RowKit.Hid (Below w.heap.size w (wr.alloc (.cells #[.int .i64 P, .int .i64 Q] 51))) := Lib.hid (HW.out.alloc HW.out.size _)
          have HX2 := Lib.hid (HXr.out.alloc (.cells #[.int .i64 P, .int .i64 Q] 51)); have HY2 := Lib.hid (HYr.out.alloc (.cells #[.int .i64 P, .int .i64 Q] 51))
          clear hbox hown HXr HYr
          go_wp2
          go_roundw
          case rel => exact ⟨k + 1, _, by omega, by go_num, HBX.out, HON.out, HBL.out, HX2.out, HY2.out⟩
          case measure => simp [intOf]; omega
    · have e : k = l.length := by omega
      subst e
      rw [List.take_length, HM.out] at hown
      obtain ⟨x6, c6, rfl⟩ := own_shapeS hown
      have HR := Lib.hid hown.rd
      have HOF := Lib.hid (fun b (hb : b < w2.heap.size + 1) => off_own hown (b := b) hb)
      have HQr := Lib.hid hbox
      have i1 : ¬ (l.length : Int) < (l.length : Int) := by omega
      have h0 := hbox.cell 0; have h1 := hbox.cell 1; have h2 := hbox.cell 2; have h3 := hbox.cell 3; have h4 := hbox.cell 4; have h5 := hbox.cell 5
      simp only [List.getElem?_cons_zero, List.getElem?_cons_succ] at h0 h1 h2 h3 h4 h5
      have HDR := Lib.hid (rdE_dr (E := elS) HR.out)
      have HBd : RowKit.Hid (Below w.heap.size w wr.drew) := Lib.hid HW.out.drew
      clear hbox hown hbw
      go_wp2_with fail
      go_region_held3 (fun w' => w'.cell? ⟨w2.heap.size, 0, none⟩ = some (.int .i64 id) ∧ w'.cell? ⟨w2.heap.size, 1, none⟩ = some (.int .i64 born) ∧ w'.cell? ⟨w2.heap.size, 2, none⟩ = some (.int .i64 a) ∧ w'.cell? ⟨w2.heap.size, 3, none⟩ = some (.int .i64 b) ∧ w'.cell? ⟨w2.heap.size, 4, none⟩ = some (.int .i64 ser) ∧ w'.cell? ⟨w2.heap.size, 5, none⟩ = some (.slice x6 M.length c6) ∧ w'.cell? ⟨w.heap.size, 5, none⟩ = some (.slice x l.length cap))
        (first | (go_split_ands; (repeat' apply And.intro) <;> first | (with_reducible assumption) | ((with_reducible refine kp (a := wr) ?_ (by with_reducible assumption)); first | (with_reducible exact (br _).drew) | (with_reducible exact BA.out) | (with_reducible exact BB.out))) | fail)
        (first
          | (go_at_call 22; (with_reducible refine (C5.out _ HBd.out).mono ?_); rintro enA wA ⟨rfl, hbA⟩; have BA := Lib.hid (bd (br wr) hbA))
          | (go_at_call 22; (with_reducible refine (C6.out _ _ (Rd.below HR.out BA.out)).mono ?_); rintro enB wB ⟨rfl, hbB⟩; have BB := Lib.hid (bt BA.out hbB); have YB' := HYr.out.next BB.out; have QB' := Bx.others (b' := w.heap.size + 1) (HQr.out.next BB.out) (by omega) (.int .i64 id) (.int .i64 born) (.int .i64 a) (.int .i64 b) (.int .i64 ser) ((.slice x6 M.length c6)); have PB' := Bx.others (b' := w.heap.size + 1) (HXr.out.next BB.out) (by omega) (.int .i64 id) (.int .i64 born) (.int .i64 a) (.int .i64 b) (.int .i64 ser) ((.slice x6 M.length c6)); have q0 : wB.cell? ⟨w.heap.size + 1, 0, none⟩ = some (.int .i64 0) := YB'.cell 0; have r0 : wB.frozen? ⟨w.heap.size + 1, 0, none⟩ = false := YB'.froz 0; have q1 : wB.cell? ⟨w.heap.size + 1, 1, none⟩ = some (.int .i64 0) := YB'.cell 1; have r1 : wB.frozen? ⟨w.heap.size + 1, 1, none⟩ = false := YB'.froz 1; have q2 : wB.cell? ⟨w.heap.size + 1, 2, none⟩ = some (.int .i64 0) := YB'.cell 2; have r2 : wB.frozen? ⟨w.heap.size + 1, 2, none⟩ = false := YB'.froz 2; have q3 : wB.cell? ⟨w.heap.size + 1, 3, none⟩ = some (.int .i64 0) := YB'.cell 3; have r3 : wB.frozen? ⟨w.heap.size + 1, 3, none⟩ = false := YB'.froz 3; have q4 : wB.cell? ⟨w.heap.size + 1, 4, none⟩ = some (.int .i64 0) := YB'.cell 4; have r4 : wB.frozen? ⟨w.heap.size + 1, 4, none⟩ = false := YB'.froz 4; have q5 : wB.cell? ⟨w.heap.size + 1, 5, none⟩ = some (.slice none 0 0) := YB'.cell 5; have r5 : wB.frozen? ⟨w.heap.size + 1, 5, none⟩ = false := YB'.froz 5; have s0 : ((((((wB.setCell ⟨w.heap.size + 1, 0, none⟩ (.int .i64 id)).setCell ⟨w.heap.size + 1, 1, none⟩ (.int .i64 born)).setCell ⟨w.heap.size + 1, 2, none⟩ (.int .i64 a)).setCell ⟨w.heap.size + 1, 3, none⟩ (.int .i64 b)).setCell ⟨w.heap.size + 1, 4, none⟩ (.int .i64 ser)).setCell ⟨w.heap.size + 1, 5, none⟩ ((.slice x6 M.length c6))).cell? ⟨w2.heap.size, 0, none⟩ = some (.int .i64 id) := QB'.cell 0;  have s1 : ((((((wB.setCell ⟨w.heap.size + 1, 0, none⟩ (.int .i64 id)).setCell ⟨w.heap.size + 1, 1, none⟩ (.int .i64 born)).setCell ⟨w.heap.size + 1, 2, none⟩ (.int .i64 a)).setCell ⟨w.heap.size + 1, 3, none⟩ (.int .i64 b)).setCell ⟨w.heap.size + 1, 4, none⟩ (.int .i64 ser)).setCell ⟨w.heap.size + 1, 5, none⟩ ((.slice x6 M.length c6))).cell? ⟨w2.heap.size, 1, none⟩ = some (.int .i64 born) := QB'.cell 1;  have s2 : ((((((wB.setCell ⟨w.heap.size + 1, 0, none⟩ (.int .i64 id)).setCell ⟨w.heap.size + 1, 1, none⟩ (.int .i64 born)).setCell ⟨w.heap.size + 1, 2, none⟩ (.int .i64 a)).setCell ⟨w.heap.size + 1, 3, none⟩ (.int .i64 b)).setCell ⟨w.heap.size + 1, 4, none⟩ (.int .i64 ser)).setCell ⟨w.heap.size + 1, 5, none⟩ ((.slice x6 M.length c6))).cell? ⟨w2.heap.size, 2, none⟩ = some (.int .i64 a) := QB'.cell 2;  have s3 : ((((((wB.setCell ⟨w.heap.size + 1, 0, none⟩ (.int .i64 id)).setCell ⟨w.heap.size + 1, 1, none⟩ (.int .i64 born)).setCell ⟨w.heap.size + 1, 2, none⟩ (.int .i64 a)).setCell ⟨w.heap.size + 1, 3, none⟩ (.int .i64 b)).setCell ⟨w.heap.size + 1, 4, none⟩ (.int .i64 ser)).setCell ⟨w.heap.size + 1, 5, none⟩ ((.slice x6 M.length c6))).cell? ⟨w2.heap.size, 3, none⟩ = some (.int .i64 b) := QB'.cell 3;  have s4 : ((((((wB.setCell ⟨w.heap.size + 1, 0, none⟩ (.int .i64 id)).setCell ⟨w.heap.size + 1, 1, none⟩ (.int .i64 born)).setCell ⟨w.heap.size + 1, 2, none⟩ (.int .i64 a)).setCell ⟨w.heap.size + 1, 3, none⟩ (.int .i64 b)).setCell ⟨w.heap.size + 1, 4, none⟩ (.int .i64 ser)).setCell ⟨w.heap.size + 1, 5, none⟩ ((.slice x6 M.length c6))).cell? ⟨w2.heap.size, 4, none⟩ = some (.int .i64 ser) := QB'.cell 4;  have s5 : ((((((wB.setCell ⟨w.heap.size + 1, 0, none⟩ (.int .i64 id)).setCell ⟨w.heap.size + 1, 1, none⟩ (.int .i64 born)).setCell ⟨w.heap.size + 1, 2, none⟩ (.int .i64 a)).setCell ⟨w.heap.size + 1, 3, none⟩ (.int .i64 b)).setCell ⟨w.heap.size + 1, 4, none⟩ (.int .i64 ser)).setCell ⟨w.heap.size + 1, 5, none⟩ ((.slice x6 M.length c6))).cell? ⟨w2.heap.size, 5, none⟩ = some (.slice x6 M.length c6) := QB'.cell 5; have s6 : ((((((wB.setCell ⟨w.heap.size + 1, 0, none⟩ (.int .i64 id)).setCell ⟨w.heap.size + 1, 1, none⟩ (.int .i64 born)).setCell ⟨w.heap.size + 1, 2, none⟩ (.int .i64 a)).setCell ⟨w.heap.size + 1, 3, none⟩ (.int .i64 b)).setCell ⟨w.heap.size + 1, 4, none⟩ (.int .i64 ser)).setCell ⟨w.heap.size + 1, 5, none⟩ ((.slice x6 M.length c6))).cell? ⟨w.heap.size, 5, none⟩ = some (.slice x l.length cap) := PB'.cell 5; have HYB := Lib.hid YB'; clear YB' QB' PB')
          | fail)
      have Z1 := Pb.put HYB.out ⟨id, born, a, b, ser⟩ (.slice x6 M.length c6)
      have Z2 := below6 (HW.out.trans (BB.out.mono HW.out.size)) (b := w.heap.size + 1) (by omega) (.int .i64 id) (.int .i64 born) (.int .i64 a) (.int .i64 b) (.int .i64 ser) ((.slice x6 M.length c6))
      have Z3 := rd_put6 (b := w.heap.size + 1) (Rd.below HR.out BB.out) (HOF.out _ (by omega)) (.int .i64 id) (.int .i64 born) (.int .i64 a) (.int .i64 b) (.int .i64 ser) ((.slice x6 M.length c6))
      generalize (((((wB.setCell ⟨w.heap.size + 1, 0, none⟩ (.int .i64 id)).setCell ⟨w.heap.size + 1, 1, none⟩ (.int .i64 born)).setCell ⟨w.heap.size + 1, 2, none⟩ (.int .i64 a)).setCell ⟨w.heap.size + 1, 3, none⟩ (.int .i64 b)).setCell ⟨w.heap.size + 1, 4, none⟩ (.int .i64 ser)).setCell ⟨w.heap.size + 1, 5, none⟩ ((.slice x6 M.length c6)) = W2 at Z1 Z2 Z3 ⊢
      have y0 := Z1.cell 0; have y1 := Z1.cell 1; have y2 := Z1.cell 2; have y3 := Z1.cell 3; have y4 := Z1.cell 4; have y5 := Z1.cell 5
      simp only [List.getElem?_cons_zero, List.getElem?_cons_succ] at y0 y1 y2 y3 y4 y5
      try go_wp2
      refine bodyPost_ret (v := .tuple #[aP ⟨id, born, a, b, ser⟩ (.slice x6 M.length c6), .int .i64 (A - B), .int .i64 0]) (by simp [results, Try.results13, go_sem, y0, y1, y2, y3, y4, y5]) rfl ⟨_, rfl, Z3, fun b hb _ => HOF.out b (by omega), Z2⟩
theorem cutR_any (p : Ps) (d : Value) (l : List Sp) (n : Int) (w : World) (h : RdE elS w d l) : Calls Try.prog 13 #[aP p d, .int .i64 n] w (R3Q (.slice none 0 0) (cutG p l n) w) := by
  unfold cutG
  by_cases c : passE p l = 0
  · rw [if_pos c]
    cases hD : isD n with
    | false => rw [if_pos rfl]; exact cutR_day p d l n w h c hD
    | true => rw [if_neg (show ¬ (true = false) by decide)]; exact cutR_yes p d l n w h c hD
  · rw [if_neg c]; exact cutR_bad p d l n w h c
end Pa
end Go.Proofs.Ytcgncmlldjblmaa
