/- Passes: the document's: are two one, has one a day, a new one, one replaced. (gen_pass3.py) -/
import Derived.Test.YtdacnefklcmckaaPassCut
import Derived.Test.YtdacnefklcmckaaPassCheckR
import Derived.Test.YtdacnefklcmckaaTermRefN
import Derived.Deep.Cut
set_option linter.unusedSimpArgs false
set_option linter.unusedVariables false
namespace Go.Proofs.Ytdacnefklcmckaa
open Go.RowKit
namespace Pa
open Dt Sn
set_option maxRecDepth 100000 in
set_option maxHeartbeats 500000 in
theorem same_yes (p : Ps) (d d' : Value) (l : List Sp) (w : World) (h : RdE elS w d l) (h' : RdE elS w d' l) : Calls Try.prog 18 #[aP p d, aP p d'] w (BoolQ true w) := by
  have C1 := Lib.hid (fun w' (hb : Below w.heap.size w w') => sameS_any d d' l l w' (h.below hb) (h'.below hb))
  unfold SameSQ at C1
  simp only [decide_true] at C1
  obtain ⟨id, born, a, b, ser⟩ := p
  obtain ⟨x, cap, rfl, _, _, _⟩ := h
  obtain ⟨x', cap', rfl, _, _, _⟩ := h'
  have HA := Lib.hid (((br w).alloc (Nat.le_refl _) (.cells #[.int .i64 id, .int .i64 born, .int .i64 a, .int .i64 b, .int .i64 ser, .slice x l.length cap] 24)).alloc (by simp) (.cells #[.int .i64 id, .int .i64 born, .int .i64 a, .int .i64 b, .int .i64 ser, .slice x' l.length cap'] 24))
  have e1 : (id == id) = true := by simp
  have e2 : (born == born) = true := by simp
  have e3 : (a == a) = true := by simp
  have e4 : (b == b) = true := by simp
  have e5 : (ser == ser) = true := by simp
  go_enter Try.func18, Try.ntmps18
  go_wp2_with (first | (go_at_call 35; (with_reducible refine (C1.out _ (by first | exact HA.out | exact bn HA.out _)).mono ?_); rintro en w3 ⟨rfl, b3⟩))
  go_ret
  exact ⟨rfl, bt HA.out b3⟩
def hasP (p : Ps) (l : List Sp) (n z : Int) : Bool := decide (p.a ≤ z) && (decide (z ≤ p.b) && has l n)
set_option maxRecDepth 100000 in
set_option maxHeartbeats 500000 in
theorem hasR_any (p : Ps) (d : Value) (l : List Sp) (n z : Int) (w : World) (h : RdE elS w d l) : Calls Try.prog 19 #[aP p d, .int .i64 n, .int .i64 z] w (BoolQ (hasP p l n z) w) := by
  have C1 := Lib.hid (fun w' (hb : Below w.heap.size w w') => hasDay_any d l n w' (h.below hb))
  obtain ⟨id, born, a, b, ser⟩ := p
  obtain ⟨x, cap, rfl, _, _, _⟩ := h
  have HA := Lib.hid ((br w).alloc (Nat.le_refl _) (.cells #[.int .i64 id, .int .i64 born, .int .i64 a, .int .i64 b, .int .i64 ser, .slice x l.length cap] 24))
  by_cases c1 : a ≤ z
  · by_cases c2 : z ≤ b
    · have hr : hasP ⟨id, born, a, b, ser⟩ l n z = has l n := by unfold hasP; rw [decide_eq_true c1, decide_eq_true c2]; rfl
      rw [hr]
      clear hr
      go_enter Try.func19, Try.ntmps19
      go_wp2_with (first | (go_at_call 40; (with_reducible refine (C1.out _ (by first | exact HA.out | exact bn HA.out _)).mono ?_); rintro en w3 ⟨rfl, rfl⟩))
      go_ret
      exact ⟨rfl, by first | exact HA.out | exact bn HA.out _⟩
    · have hr : hasP ⟨id, born, a, b, ser⟩ l n z = false := by unfold hasP; rw [decide_eq_true c1, decide_eq_false c2]; rfl
      rw [hr]
      clear hr
      go_enter Try.func19, Try.ntmps19
      go_wp2
      go_ret
      exact ⟨rfl, by first | exact HA.out | exact bn HA.out _⟩
  · have hr : hasP ⟨id, born, a, b, ser⟩ l n z = false := by unfold hasP; rw [decide_eq_false c1]; rfl
    rw [hr]
    clear hr
    go_enter Try.func19, Try.ntmps19
    go_wp2
    go_ret
    exact ⟨rfl, by first | exact HA.out | exact bn HA.out _⟩
set_option maxRecDepth 100000 in
set_option maxHeartbeats 500000 in
theorem newR_any (id born a b s u N : Int) (w : World) : Calls Try.prog 12 #[.int .i64 id, .int .i64 born, .int .i64 a, .int .i64 b, .int .i64 s, aT u N] w
    (PassQ (.slice none 0 0) (if newE id born a b s u N = 0 then ⟨id, born, a, b, 1⟩ else p0) (if newE id born a b s u N = 0 then oneL s u N else []) (newE id born a b s u N) w) := by
  have hn := fun w => nthR_any s u N 1 w
  unfold Dt.PairQ at hn
  unfold newE oneL
  obtain ⟨r, hr⟩ : ∃ r, nthF u N s 1 = r := ⟨_, rfl⟩
  rw [hr] at hn ⊢
  clear hr
  obtain ⟨T, E⟩ := r
  try simp only at hn ⊢
  unfold aT at hn ⊢
  have C1 := Lib.hid hn
  clear hn
  have C2 := Lib.hid (fun d w h => checkR_any ⟨id, born, a, b, 1⟩ d [(s, T)] w h)
  have HA := Lib.hid (((br w).alloc (Nat.le_refl _) (.cells #[.int .i64 u, .int .i64 N] 26)).alloc (by simp) (.cells #[.int .i64 0, .int .i64 0, .int .i64 0, .int .i64 0, .int .i64 0, .slice none 0 0] 24))
  have hy : Pb ((w.alloc (.cells #[.int .i64 u, .int .i64 N] 26)).alloc (.cells #[.int .i64 0, .int .i64 0, .int .i64 0, .int .i64 0, .int .i64 0, .slice none 0 0] 24)) (w.alloc (.cells #[.int .i64 u, .int .i64 N] 26)).heap.size ⟨0, 0, 0, 0, 0⟩ (.slice none 0 0) := Box.new _ _ _
  rw [asz] at hy
  have HY := Lib.hid hy
  clear hy
  by_cases c : E = 0
  · subst c
    rw [if_pos rfl, if_pos rfl]
    obtain ⟨E2, hE2⟩ : ∃ E2, passE ⟨id, born, a, b, 1⟩ [(s, T)] = E2 := ⟨_, rfl⟩
    rw [hE2] at C2 ⊢
    clear hE2
    by_cases c2 : E2 = 0
    · subst c2
      rw [if_pos rfl, if_pos rfl]
      go_enter Try.func12, Try.ntmps12
      go_wp2_with fail
      refine (C1.out _).mono ?_
      rintro en w2 ⟨rfl, b2⟩
      have HB := Lib.hid (bt HA.out b2)
      have HY2 := Lib.hid ((HY.out.next b2))
      have hltA := HY2.out.lt
      have hl := rd_lit elS [(s, T)] w2 51 (0, 0) w2.heap.size rfl (by simp [maxLen])
      have HL := Lib.hid (hl.below ((br _).alloc (Nat.le_refl _) (.cells #[.int .i64 id, .int .i64 born, .int .i64 a, .int .i64 b, .int .i64 1, .slice (some ⟨w2.heap.size, 0, none⟩) 1 1] 24)))
      have hp : Pb ((w2.alloc (.cells #[.int .i64 s, .int .i64 T] 51)).alloc (.cells #[.int .i64 id, .int .i64 born, .int .i64 a, .int .i64 b, .int .i64 1, .slice (some ⟨w2.heap.size, 0, none⟩) 1 1] 24)) (w2.alloc (.cells #[.int .i64 s, .int .i64 T] 51)).heap.size ⟨id, born, a, b, 1⟩ (.slice (some ⟨w2.heap.size, 0, none⟩) 1 1) := Box.new _ _ _
      rw [asz] at hp
      have HP := Lib.hid hp
      clear hp hl b2
      go_wp2_with fail
      refine (C2.out _ _ HL.out).mono ?_
      rintro en w3 ⟨rfl, b3⟩
      have HB3 := Lib.hid (bt ((HB.out.alloc HB.out.size (.cells #[.int .i64 s, .int .i64 T] 51)).alloc (by have := HB.out.size; simp; omega) (.cells #[.int .i64 id, .int .i64 born, .int .i64 a, .int .i64 b, .int .i64 1, .slice (some ⟨w2.heap.size, 0, none⟩) 1 1] 24)) b3)
      have hp := HP.out.next b3
      have hy := ((HY2.out.alloc (.cells #[.int .i64 s, .int .i64 T] 51)).alloc (.cells #[.int .i64 id, .int .i64 born, .int .i64 a, .int .i64 b, .int .i64 1, .slice (some ⟨w2.heap.size, 0, none⟩) 1 1] 24)).next b3
      have HL3 := Lib.hid (HL.out.below b3)
      have hlt := hy.lt
      have hlt1 := hp.lt
      have k0 := hp.cell 0; have k1 := hp.cell 1; have k2 := hp.cell 2; have k3 := hp.cell 3; have k4 := hp.cell 4; have k5 := hp.cell 5
      simp only [List.getElem?_cons_zero, List.getElem?_cons_succ] at k0 k1 k2 k3 k4 k5
      have z0 := hy.cell 0; have z1 := hy.cell 1; have z2 := hy.cell 2; have z3 := hy.cell 3; have z4 := hy.cell 4; have z5 := hy.cell 5
      simp only [List.getElem?_cons_zero, List.getElem?_cons_succ] at z0 z1 z2 z3 z4 z5
      have f0 := hy.froz 0; have f1 := hy.froz 1; have f2 := hy.froz 2; have f3 := hy.froz 3; have f4 := hy.froz 4; have f5 := hy.froz 5
      have HY3 := Lib.hid hy
      clear b3 hy hp HL HP HB HY2 HA HY
      go_wp2
      have P := Pb.put HY3.out ⟨id, born, a, b, 1⟩ (.slice (some ⟨w2.heap.size, 0, none⟩) 1 1)
      have Q := below6 HB3.out (b := w.heap.size + 1) (by omega) (.int .i64 id) (.int .i64 born) (.int .i64 a) (.int .i64 b) (.int .i64 1) ((.slice (some ⟨w2.heap.size, 0, none⟩) 1 1))
      have R := rd_put6 (b := w.heap.size + 1) HL3.out (fun a n c hk _ => by cases hk; simp only; omega) (.int .i64 id) (.int .i64 born) (.int .i64 a) (.int .i64 b) (.int .i64 1) ((.slice (some ⟨w2.heap.size, 0, none⟩) 1 1))
      generalize (((((w3.setCell ⟨w.heap.size + 1, 0, none⟩ (.int .i64 id)).setCell ⟨w.heap.size + 1, 1, none⟩ (.int .i64 born)).setCell ⟨w.heap.size + 1, 2, none⟩ (.int .i64 a)).setCell ⟨w.heap.size + 1, 3, none⟩ (.int .i64 b)).setCell ⟨w.heap.size + 1, 4, none⟩ (.int .i64 1)).setCell ⟨w.heap.size + 1, 5, none⟩ ((.slice (some ⟨w2.heap.size, 0, none⟩) 1 1)) = W2 at P Q R ⊢
      have y0 := P.cell 0; have y1 := P.cell 1; have y2 := P.cell 2; have y3 := P.cell 3; have y4 := P.cell 4; have y5 := P.cell 5
      simp only [List.getElem?_cons_zero, List.getElem?_cons_succ] at y0 y1 y2 y3 y4 y5
      refine bodyPost_ret (v := .tuple #[aP ⟨id, born, a, b, 1⟩ (.slice (some ⟨w2.heap.size, 0, none⟩) 1 1), .int .i64 0]) (by simp [results, Try.results12, go_sem, y0, y1, y2, y3, y4, y5]) rfl ⟨_, rfl, R, fun b hb _ a n c hk _ => by cases hk; simp only; omega, Q⟩
    · rw [if_neg c2, if_neg c2]
      have hz : (E2 == 0) = false := by simpa using c2
      go_enter Try.func12, Try.ntmps12
      go_wp2_with fail
      refine (C1.out _).mono ?_
      rintro en w2 ⟨rfl, b2⟩
      have HB := Lib.hid (bt HA.out b2)
      have HY2 := Lib.hid ((HY.out.next b2))
      have hltA := HY2.out.lt
      have hl := rd_lit elS [(s, T)] w2 51 (0, 0) w2.heap.size rfl (by simp [maxLen])
      have HL := Lib.hid (hl.below ((br _).alloc (Nat.le_refl _) (.cells #[.int .i64 id, .int .i64 born, .int .i64 a, .int .i64 b, .int .i64 1, .slice (some ⟨w2.heap.size, 0, none⟩) 1 1] 24)))
      have hp : Pb ((w2.alloc (.cells #[.int .i64 s, .int .i64 T] 51)).alloc (.cells #[.int .i64 id, .int .i64 born, .int .i64 a, .int .i64 b, .int .i64 1, .slice (some ⟨w2.heap.size, 0, none⟩) 1 1] 24)) (w2.alloc (.cells #[.int .i64 s, .int .i64 T] 51)).heap.size ⟨id, born, a, b, 1⟩ (.slice (some ⟨w2.heap.size, 0, none⟩) 1 1) := Box.new _ _ _
      rw [asz] at hp
      have HP := Lib.hid hp
      clear hp hl b2
      go_wp2_with fail
      refine (C2.out _ _ HL.out).mono ?_
      rintro en w3 ⟨rfl, b3⟩
      have HB3 := Lib.hid (bt ((HB.out.alloc HB.out.size (.cells #[.int .i64 s, .int .i64 T] 51)).alloc (by have := HB.out.size; simp; omega) (.cells #[.int .i64 id, .int .i64 born, .int .i64 a, .int .i64 b, .int .i64 1, .slice (some ⟨w2.heap.size, 0, none⟩) 1 1] 24)) b3)
      have hp := HP.out.next b3
      have hy := ((HY2.out.alloc (.cells #[.int .i64 s, .int .i64 T] 51)).alloc (.cells #[.int .i64 id, .int .i64 born, .int .i64 a, .int .i64 b, .int .i64 1, .slice (some ⟨w2.heap.size, 0, none⟩) 1 1] 24)).next b3
      have HL3 := Lib.hid (HL.out.below b3)
      have hlt := hy.lt
      have hlt1 := hp.lt
      have k0 := hp.cell 0; have k1 := hp.cell 1; have k2 := hp.cell 2; have k3 := hp.cell 3; have k4 := hp.cell 4; have k5 := hp.cell 5
      simp only [List.getElem?_cons_zero, List.getElem?_cons_succ] at k0 k1 k2 k3 k4 k5
      have z0 := hy.cell 0; have z1 := hy.cell 1; have z2 := hy.cell 2; have z3 := hy.cell 3; have z4 := hy.cell 4; have z5 := hy.cell 5
      simp only [List.getElem?_cons_zero, List.getElem?_cons_succ] at z0 z1 z2 z3 z4 z5
      have f0 := hy.froz 0; have f1 := hy.froz 1; have f2 := hy.froz 2; have f3 := hy.froz 3; have f4 := hy.froz 4; have f5 := hy.froz 5
      have HY3 := Lib.hid hy
      clear b3 hy hp HL HP HB HY2 HA HY
      go_wp2
      have P := Pb.put HY3.out ⟨0, 0, 0, 0, 0⟩ (.slice none 0 0)
      have Q := below6 HB3.out (b := w.heap.size + 1) (by omega) (.int .i64 0) (.int .i64 0) (.int .i64 0) (.int .i64 0) (.int .i64 0) ((.slice none 0 0))
      generalize (((((w3.setCell ⟨w.heap.size + 1, 0, none⟩ (.int .i64 0)).setCell ⟨w.heap.size + 1, 1, none⟩ (.int .i64 0)).setCell ⟨w.heap.size + 1, 2, none⟩ (.int .i64 0)).setCell ⟨w.heap.size + 1, 3, none⟩ (.int .i64 0)).setCell ⟨w.heap.size + 1, 4, none⟩ (.int .i64 0)).setCell ⟨w.heap.size + 1, 5, none⟩ ((.slice none 0 0)) = W2 at P Q ⊢
      have y0 := P.cell 0; have y1 := P.cell 1; have y2 := P.cell 2; have y3 := P.cell 3; have y4 := P.cell 4; have y5 := P.cell 5
      simp only [List.getElem?_cons_zero, List.getElem?_cons_succ] at y0 y1 y2 y3 y4 y5
      refine bodyPost_ret (v := .tuple #[aP ⟨0, 0, 0, 0, 0⟩ (.slice none 0 0), .int .i64 E2]) (by simp [results, Try.results12, go_sem, y0, y1, y2, y3, y4, y5]) rfl ⟨_, rfl, rd_nil _, fun _ _ _ => off_nil _, Q⟩
  · rw [if_neg c, if_neg c, if_neg c]
    have hz : (E == 0) = false := by simpa using c
    go_enter Try.func12, Try.ntmps12
    go_wp2_with fail
    refine (C1.out _).mono ?_
    rintro en w2 ⟨rfl, b2⟩
    have HB := Lib.hid (bt HA.out b2)
    have hy := HY.out.next b2
    have hlt := hy.lt
    have z0 := hy.cell 0; have z1 := hy.cell 1; have z2 := hy.cell 2; have z3 := hy.cell 3; have z4 := hy.cell 4; have z5 := hy.cell 5
    simp only [List.getElem?_cons_zero, List.getElem?_cons_succ] at z0 z1 z2 z3 z4 z5
    have f0 := hy.froz 0; have f1 := hy.froz 1; have f2 := hy.froz 2; have f3 := hy.froz 3; have f4 := hy.froz 4; have f5 := hy.froz 5
    have HY2 := Lib.hid hy
    clear b2 HA HY hy
    go_wp2
    have P := Pb.put HY2.out ⟨0, 0, 0, 0, 0⟩ (.slice none 0 0)
    have Q := below6 HB.out (b := w.heap.size + 1) (by omega) (.int .i64 0) (.int .i64 0) (.int .i64 0) (.int .i64 0) (.int .i64 0) ((.slice none 0 0))
    generalize (((((w2.setCell ⟨w.heap.size + 1, 0, none⟩ (.int .i64 0)).setCell ⟨w.heap.size + 1, 1, none⟩ (.int .i64 0)).setCell ⟨w.heap.size + 1, 2, none⟩ (.int .i64 0)).setCell ⟨w.heap.size + 1, 3, none⟩ (.int .i64 0)).setCell ⟨w.heap.size + 1, 4, none⟩ (.int .i64 0)).setCell ⟨w.heap.size + 1, 5, none⟩ ((.slice none 0 0)) = W2 at P Q ⊢
    have y0 := P.cell 0; have y1 := P.cell 1; have y2 := P.cell 2; have y3 := P.cell 3; have y4 := P.cell 4; have y5 := P.cell 5
    simp only [List.getElem?_cons_zero, List.getElem?_cons_succ] at y0 y1 y2 y3 y4 y5
    refine bodyPost_ret (v := .tuple #[aP ⟨0, 0, 0, 0, 0⟩ (.slice none 0 0), .int .i64 E]) (by simp [results, Try.results12, go_sem, y0, y1, y2, y3, y4, y5]) rfl ⟨_, rfl, rd_nil _, fun _ _ _ => off_nil _, Q⟩
end Pa
end Go.Proofs.Ytdacnefklcmckaa
