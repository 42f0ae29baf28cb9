/- Passes: the document's: are two one, has one a day, a new one, one replaced. (gen_pass3.py) -/
import Derived.Test.YtcgncmlldjblmaaPassRenew
import Derived.Test.YtcgncmlldjblmaaPassCheckR
import Derived.Test.YtcgncmlldjblmaaTermRefN
import Derived.Deep.Cut
import Derived.Test.YtcgncmlldjblmaaSpansRef5
import Derived.Test.YtcgncmlldjblmaaSpansPlain3
set_option linter.unusedSimpArgs false
set_option linter.unusedVariables false
namespace Go.Proofs.Ytcgncmlldjblmaa
open Go.RowKit
namespace Pa
open Dt Sn
set_option maxRecDepth 100000 in
set_option maxHeartbeats 500000 in
theorem same_yes (p : Ps) (d d' : Value) (l : List Sp) (w : World) (h : RdE elS w d l) (h' : RdE elS w d' l) : Calls Try.prog 18 #[aP p d, aP p d'] w (BoolQ true w) := by
  have C1 := Lib.hid (fun w' (hb : Below w.heap.size w w') => sameS_any d d' l l w' (h.below hb) (h'.below hb))
  unfold SameSQ at C1
  simp only [decide_true] at C1
  obtain ⟨id, born, a, b, ser⟩ := p
  obtain ⟨x, cap, rfl, _, _, _⟩ := h
  obtain ⟨x', cap', rfl, _, _, _⟩ := h'
  have HA := Lib.hid (((br w).alloc (Nat.le_refl _) (.cells #[.int .i64 id, .int .i64 born, .int .i64 a, .int .i64 b, .int .i64 ser, .slice x l.length cap] 24)).alloc (by simp) (.cells #[.int .i64 id, .int .i64 born, .int .i64 a, .int .i64 b, .int .i64 ser, .slice x' l.length cap'] 24))
  have e1 : (id == id) = true := by simp
  have e2 : (born == born) = true := by simp
  have e3 : (a == a) = true := by simp
  have e4 : (b == b) = true := by simp
  have e5 : (ser == ser) = true := by simp
  go_enter Try.func18, Try.ntmps18
  go_wp2_with (first | (go_at_call 35; (with_reducible refine (C1.out _ (by first | exact HA.out | exact bn HA.out _)).mono ?_); rintro en w3 ⟨rfl, b3⟩))
  go_ret
  exact ⟨rfl, bt HA.out b3⟩
def hasP (p : Ps) (l : List Sp) (n z : Int) : Bool := decide (p.a ≤ z) && (decide (z ≤ p.b) && has l n)
set_option maxRecDepth 100000 in
set_option maxHeartbeats 500000 in
theorem hasR_any (p : Ps) (d : Value) (l : List Sp) (n z : Int) (w : World) (h : RdE elS w d l) : Calls Try.prog 19 #[aP p d, .int .i64 n, .int .i64 z] w (BoolQ (hasP p l n z) w) := by
  have C1 := Lib.hid (fun w' (hb : Below w.heap.size w w') => hasDay_any d l n w' (h.below hb))
  obtain ⟨id, born, a, b, ser⟩ := p
  obtain ⟨x, cap, rfl, _, _, _⟩ := h
  have HA := Lib.hid ((br w).alloc (Nat.le_refl _) (.cells #[.int .i64 id, .int .i64 born, .int .i64 a, .int .i64 b, .int .i64 ser, .slice x l.length cap] 24))
  by_cases c1 : a ≤ z
  · by_cases c2 : z ≤ b
    · have hr : hasP ⟨id, born, a, b, ser⟩ l n z = has l n := by unfold hasP; rw [decide_eq_true c1, decide_eq_true c2]; rfl
      rw [hr]
      clear hr
      go_enter Try.func19, Try.ntmps19
      go_wp2_with (first | (go_at_call 40; (with_reducible refine (C1.out _ (by first | exact HA.out | exact bn HA.out _)).mono ?_); rintro en w3 ⟨rfl, rfl⟩))
      go_ret
      exact ⟨rfl, by first | exact HA.out | exact bn HA.out _⟩
    · have hr : hasP ⟨id, born, a, b, ser⟩ l n z = false := by unfold hasP; rw [decide_eq_true c1, decide_eq_false c2]; rfl
      rw [hr]
      clear hr
      go_enter Try.func19, Try.ntmps19
      go_wp2
      go_ret
      exact ⟨rfl, by first | exact HA.out | exact bn HA.out _⟩
  · have hr : hasP ⟨id, born, a, b, ser⟩ l n z = false := by unfold hasP; rw [decide_eq_false c1]; rfl
    rw [hr]
    clear hr
    go_enter Try.func19, Try.ntmps19
    go_wp2
    go_ret
    exact ⟨rfl, by first | exact HA.out | exact bn HA.out _⟩
set_option maxRecDepth 100000 in
set_option maxHeartbeats 500000 in
theorem newR_any (id born a b s u N : Int) (w : World) : Calls Try.prog 12 #[.int .i64 id, .int .i64 born, .int .i64 a, .int .i64 b, .int .i64 s, aT u N] w
    (PassQ (.slice none 0 0) (if newE id born a b s u N = 0 then ⟨id, born, a, b, 1⟩ else p0) (if newE id born a b s u N = 0 then oneL s u N else []) (newE id born a b s u N) w) := by
  have hn := fun w => nthR_any s u N 1 w
  unfold Dt.PairQ at hn
  unfold newE oneL
  obtain ⟨r, hr⟩ : ∃ r, nthF u N s 1 = r := ⟨_, rfl⟩
  rw [hr] at hn ⊢
  clear hr
  obtain ⟨T, E⟩ := r
  try simp only at hn ⊢
  unfold aT at hn ⊢
  have C1 := Lib.hid hn
  clear hn
  have C2 := Lib.hid (fun d w h => checkR_any ⟨id, born, a, b, 1⟩ d [(s, T)] w h)
  have HA := Lib.hid (((br w).alloc (Nat.le_refl _) (.cells #[.int .i64 u, .int .i64 N] 26)).alloc (by simp) (.cells #[.int .i64 0, .int .i64 0, .int .i64 0, .int .i64 0, .int .i64 0, .slice none 0 0] 24))
  have hy : Pb ((w.alloc (.cells #[.int .i64 u, .int .i64 N] 26)).alloc (.cells #[.int .i64 0, .int .i64 0, .int .i64 0, .int .i64 0, .int .i64 0, .slice none 0 0] 24)) (w.alloc (.cells #[.int .i64 u, .int .i64 N] 26)).heap.size ⟨0, 0, 0, 0, 0⟩ (.slice none 0 0) := Box.new _ _ _
  rw [asz] at hy
  have HY := Lib.hid hy
  clear hy
  by_cases c : E = 0
  · subst c
    rw [if_pos rfl, if_pos rfl]
    obtain ⟨E2, hE2⟩ : ∃ E2, passE ⟨id, born, a, b, 1⟩ [(s, T)] = E2 := ⟨_, rfl⟩
    rw [hE2] at C2 ⊢
    clear hE2
    by_cases c2 : E2 = 0
    · subst c2
      rw [if_pos rfl, if_pos rfl]
      go_enter Try.func12, Try.ntmps12
      go_wp2_with fail
      refine (C1.out _).mono ?_
      rintro en w2 ⟨rfl, b2⟩
      have HB := Lib.hid (bt HA.out b2)
      have HY2 := Lib.hid ((HY.out.next b2))
      have hltA := HY2.out.lt
      have hl := rd_lit elS [(s, T)] w2 51 (0, 0) w2.heap.size rfl (by simp [maxLen])
      have HL := Lib.hid (hl.below ((br _).alloc (Nat.le_refl _) (.cells #[.int .i64 id, .int .i64 born, .int .i64 a, .int .i64 b, .int .i64 1, .slice (some ⟨w2.heap.size, 0, none⟩) 1 1] 24)))
      have hp : Pb ((w2.alloc (.cells #[.int .i64 s, .int .i64 T] 51)).alloc (.cells #[.int .i64 id, .int .i64 born, .int .i64 a, .int .i64 b, .int .i64 1, .slice (some ⟨w2.heap.size, 0, none⟩) 1 1] 24)) (w2.alloc (.cells #[.int .i64 s, .int .i64 T] 51)).heap.size ⟨id, born, a, b, 1⟩ (.slice (some ⟨w2.heap.size, 0, none⟩) 1 1) := Box.new _ _ _
      rw [asz] at hp
      have HP := Lib.hid hp
      clear hp hl b2
      go_wp2_with fail
      refine (C2.out _ _ HL.out).mono ?_
      rintro en w3 ⟨rfl, b3⟩
      have HB3 := Lib.hid (bt ((HB.out.alloc HB.out.size (.cells #[.int .i64 s, .int .i64 T] 51)).alloc (by have := HB.out.size; simp; omega) (.cells #[.int .i64 id, .int .i64 born, .int .i64 a, .int .i64 b, .int .i64 1, .slice (some ⟨w2.heap.size, 0, none⟩) 1 1] 24)) b3)
      have hp := HP.out.next b3
      have hy := ((HY2.out.alloc (.cells #[.int .i64 s, .int .i64 T] 51)).alloc (.cells #[.int .i64 id, .int .i64 born, .int .i64 a, .int .i64 b, .int .i64 1, .slice (some ⟨w2.heap.size, 0, none⟩) 1 1] 24)).next b3
      have HL3 := Lib.hid (HL.out.below b3)
      have hlt := hy.lt
      have hlt1 := hp.lt
      have k0 := hp.cell 0; have k1 := hp.cell 1; have k2 := hp.cell 2; have k3 := hp.cell 3; have k4 := hp.cell 4; have k5 := hp.cell 5
      simp only [List.getElem?_cons_zero, List.getElem?_cons_succ] at k0 k1 k2 k3 k4 k5
      have z0 := hy.cell 0; have z1 := hy.cell 1; have z2 := hy.cell 2; have z3 := hy.cell 3; have z4 := hy.cell 4; have z5 := hy.cell 5
      simp only [List.getElem?_cons_zero, List.getElem?_cons_succ] at z0 z1 z2 z3 z4 z5
      have f0 := hy.froz 0; have f1 := hy.froz 1; have f2 := hy.froz 2; have f3 := hy.froz 3; have f4 := hy.froz 4; have f5 := hy.froz 5
      have HY3 := Lib.hid hy
      clear b3 hy hp HL HP HB HY2 HA HY
      go_wp2
      have P := Pb.put HY3.out ⟨id, born, a, b, 1⟩ (.slice (some ⟨w2.heap.size, 0, none⟩) 1 1)
      have Q := below6 HB3.out (b := w.heap.size + 1) (by omega) (.int .i64 id) (.int .i64 born) (.int .i64 a) (.int .i64 b) (.int .i64 1) ((.slice (some ⟨w2.heap.size, 0, none⟩) 1 1))
      have R := rd_put6 (b := w.heap.size + 1) HL3.out (fun a n c hk _ => by cases hk; simp only; omega) (.int .i64 id) (.int .i64 born) (.int .i64 a) (.int .i64 b) (.int .i64 1) ((.slice (some ⟨w2.heap.size, 0, none⟩) 1 1))
      generalize (((((w3.setCell ⟨w.heap.size + 1, 0, none⟩ (.int .i64 id)).setCell ⟨w.heap.size + 1, 1, none⟩ (.int .i64 born)).setCell ⟨w.heap.size + 1, 2, none⟩ (.int .i64 a)).setCell ⟨w.heap.size + 1, 3, none⟩ (.int .i64 b)).setCell ⟨w.heap.size + 1, 4, none⟩ (.int .i64 1)).setCell ⟨w.heap.size + 1, 5, none⟩ ((.slice (some ⟨w2.heap.size, 0, none⟩) 1 1)) = W2 at P Q R ⊢
      have y0 := P.cell 0; have y1 := P.cell 1; have y2 := P.cell 2; have y3 := P.cell 3; have y4 := P.cell 4; have y5 := P.cell 5
      simp only [List.getElem?_cons_zero, List.getElem?_cons_succ] at y0 y1 y2 y3 y4 y5
      refine bodyPost_ret (v := .tuple #[aP ⟨id, born, a, b, 1⟩ (.slice (some ⟨w2.heap.size, 0, none⟩) 1 1), .int .i64 0]) (by simp [results, Try.results12, go_sem, y0, y1, y2, y3, y4, y5]) rfl ⟨_, rfl, R, fun b hb _ a n c hk _ => by cases hk; simp only; omega, Q⟩
    · rw [if_neg c2, if_neg c2]
      have hz : (E2 == 0) = false := by simpa using c2
      go_enter Try.func12, Try.ntmps12
      go_wp2_with fail
      refine (C1.out _).mono ?_
      rintro en w2 ⟨rfl, b2⟩
      have HB := Lib.hid (bt HA.out b2)
      have HY2 := Lib.hid ((HY.out.next b2))
      have hltA := HY2.out.lt
      have hl := rd_lit elS [(s, T)] w2 51 (0, 0) w2.heap.size rfl (by simp [maxLen])
      have HL := Lib.hid (hl.below ((br _).alloc (Nat.le_refl _) (.cells #[.int .i64 id, .int .i64 born, .int .i64 a, .int .i64 b, .int .i64 1, .slice (some ⟨w2.heap.size, 0, none⟩) 1 1] 24)))
      have hp : Pb ((w2.alloc (.cells #[.int .i64 s, .int .i64 T] 51)).alloc (.cells #[.int .i64 id, .int .i64 born, .int .i64 a, .int .i64 b, .int .i64 1, .slice (some ⟨w2.heap.size, 0, none⟩) 1 1] 24)) (w2.alloc (.cells #[.int .i64 s, .int .i64 T] 51)).heap.size ⟨id, born, a, b, 1⟩ (.slice (some ⟨w2.heap.size, 0, none⟩) 1 1) := Box.new _ _ _
      rw [asz] at hp
      have HP := Lib.hid hp
      clear hp hl b2
      go_wp2_with fail
      refine (C2.out _ _ HL.out).mono ?_
      rintro en w3 ⟨rfl, b3⟩
      have HB3 := Lib.hid (bt ((HB.out.alloc HB.out.size (.cells #[.int .i64 s, .int .i64 T] 51)).alloc (by have := HB.out.size; simp; omega) (.cells #[.int .i64 id, .int .i64 born, .int .i64 a, .int .i64 b, .int .i64 1, .slice (some ⟨w2.heap.size, 0, none⟩) 1 1] 24)) b3)
      have hp := HP.out.next b3
      have hy := ((HY2.out.alloc (.cells #[.int .i64 s, .int .i64 T] 51)).alloc (.cells #[.int .i64 id, .int .i64 born, .int .i64 a, .int .i64 b, .int .i64 1, .slice (some ⟨w2.heap.size, 0, none⟩) 1 1] 24)).next b3
      have HL3 := Lib.hid (HL.out.below b3)
      have hlt := hy.lt
      have hlt1 := hp.lt
      have k0 := hp.cell 0; have k1 := hp.cell 1; have k2 := hp.cell 2; have k3 := hp.cell 3; have k4 := hp.cell 4; have k5 := hp.cell 5
      simp only [List.getElem?_cons_zero, List.getElem?_cons_succ] at k0 k1 k2 k3 k4 k5
      have z0 := hy.cell 0; have z1 := hy.cell 1; have z2 := hy.cell 2; have z3 := hy.cell 3; have z4 := hy.cell 4; have z5 := hy.cell 5
      simp only [List.getElem?_cons_zero, List.getElem?_cons_succ] at z0 z1 z2 z3 z4 z5
      have f0 := hy.froz 0; have f1 := hy.froz 1; have f2 := hy.froz 2; have f3 := hy.froz 3; have f4 := hy.froz 4; have f5 := hy.froz 5
      have HY3 := Lib.hid hy
      clear b3 hy hp HL HP HB HY2 HA HY
      go_wp2
      have P := Pb.put HY3.out ⟨0, 0, 0, 0, 0⟩ (.slice none 0 0)
      have Q := below6 HB3.out (b := w.heap.size + 1) (by omega) (.int .i64 0) (.int .i64 0) (.int .i64 0) (.int .i64 0) (.int .i64 0) ((.slice none 0 0))
      generalize (((((w3.setCell ⟨w.heap.size + 1, 0, none⟩ (.int .i64 0)).setCell ⟨w.heap.size + 1, 1, none⟩ (.int .i64 0)).setCell ⟨w.heap.size + 1, 2, none⟩ (.int .i64 0)).setCell ⟨w.heap.size + 1, 3, none⟩ (.int .i64 0)).setCell ⟨w.heap.size + 1, 4, none⟩ (.int .i64 0)).setCell ⟨w.heap.size + 1, 5, none⟩ ((.slice none 0 0)) = W2 at P Q ⊢
      have y0 := P.cell 0; have y1 := P.cell 1; have y2 := P.cell 2; have y3 := P.cell 3; have y4 := P.cell 4; have y5 := P.cell 5
      simp only [List.getElem?_cons_zero, List.getElem?_cons_succ] at y0 y1 y2 y3 y4 y5
      refine bodyPost_ret (v := .tuple #[aP ⟨0, 0, 0, 0, 0⟩ (.slice none 0 0), .int .i64 E2]) (by simp [results, Try.results12, go_sem, y0, y1, y2, y3, y4, y5]) rfl ⟨_, rfl, rd_nil _, fun _ _ _ => off_nil _, Q⟩
  · rw [if_neg c, if_neg c, if_neg c]
    have hz : (E == 0) = false := by simpa using c
    go_enter Try.func12, Try.ntmps12
    go_wp2_with fail
    refine (C1.out _).mono ?_
    rintro en w2 ⟨rfl, b2⟩
    have HB := Lib.hid (bt HA.out b2)
    have hy := HY.out.next b2
    have hlt := hy.lt
    have z0 := hy.cell 0; have z1 := hy.cell 1; have z2 := hy.cell 2; have z3 := hy.cell 3; have z4 := hy.cell 4; have z5 := hy.cell 5
    simp only [List.getElem?_cons_zero, List.getElem?_cons_succ] at z0 z1 z2 z3 z4 z5
    have f0 := hy.froz 0; have f1 := hy.froz 1; have f2 := hy.froz 2; have f3 := hy.froz 3; have f4 := hy.froz 4; have f5 := hy.froz 5
    have HY2 := Lib.hid hy
    clear b2 HA HY hy
    go_wp2
    have P := Pb.put HY2.out ⟨0, 0, 0, 0, 0⟩ (.slice none 0 0)
    have Q := below6 HB.out (b := w.heap.size + 1) (by omega) (.int .i64 0) (.int .i64 0) (.int .i64 0) (.int .i64 0) (.int .i64 0) ((.slice none 0 0))
    generalize (((((w2.setCell ⟨w.heap.size + 1, 0, none⟩ (.int .i64 0)).setCell ⟨w.heap.size + 1, 1, none⟩ (.int .i64 0)).setCell ⟨w.heap.size + 1, 2, none⟩ (.int .i64 0)).setCell ⟨w.heap.size + 1, 3, none⟩ (.int .i64 0)).setCell ⟨w.heap.size + 1, 4, none⟩ (.int .i64 0)).setCell ⟨w.heap.size + 1, 5, none⟩ ((.slice none 0 0)) = W2 at P Q ⊢
    have y0 := P.cell 0; have y1 := P.cell 1; have y2 := P.cell 2; have y3 := P.cell 3; have y4 := P.cell 4; have y5 := P.cell 5
    simp only [List.getElem?_cons_zero, List.getElem?_cons_succ] at y0 y1 y2 y3 y4 y5
    refine bodyPost_ret (v := .tuple #[aP ⟨0, 0, 0, 0, 0⟩ (.slice none 0 0), .int .i64 E]) (by simp [results, Try.results12, go_sem, y0, y1, y2, y3, y4, y5]) rfl ⟨_, rfl, rd_nil _, fun _ _ _ => off_nil _, Q⟩
end Pa
end Go.Proofs.Ytcgncmlldjblmaa
/- Passes: the document's: where one ends; one replaced. (gen_pass3.py) -/
set_option linter.unusedVariables false
namespace Go.Proofs.Ytcgncmlldjblmaa
open Go.RowKit
namespace Pa
open Dt Sn
def endK (l : List Sp) (k : Nat) : Int := if h : 0 < k ∧ k ≤ l.length then (l[k - 1]'(by omega)).2 else 0
theorem endK_end (l : List Sp) : endK l l.length = endD l := by
  unfold endK endD
  by_cases h : 0 < l.length
  · rw [dif_pos ⟨h, Nat.le_refl _⟩, dif_pos h]
  · rw [dif_neg (fun x => h x.1), dif_neg h]
theorem endK_succ (l : List Sp) (k : Nat) (h : k < l.length) : endK l (k + 1) = l[k].2 := by
  unfold endK
  rw [dif_pos ⟨by omega, by omega⟩]
  rfl
set_option maxRecDepth 100000 in
set_option maxHeartbeats 800000 in
theorem endR_any (p : Ps) (d : Value) (l : List Sp) (w : World) (h : RdE elS w d l) : Calls Try.prog 23 #[aP p d] w fun e w' => e = .returned (.int .i64 (endD l)) ∧ Below w.heap.size w w' := by
  have hle := h.len_le
  obtain ⟨id, born, a, b, ser⟩ := p
  obtain ⟨x, cap, rfl, h1, h2, h3⟩ := h
  have H3 := Lib.hid h3; clear h3
  have HA := Lib.hid ((br w).alloc (Nat.le_refl _) (.cells #[.int .i64 id, .int .i64 born, .int .i64 a, .int .i64 b, .int .i64 ser, .slice x l.length cap] 24))
  have hx : Pb (w.alloc (.cells #[.int .i64 id, .int .i64 born, .int .i64 a, .int .i64 b, .int .i64 ser, .slice x l.length cap] 24)) w.heap.size ⟨id, born, a, b, ser⟩ (.slice x l.length cap) := Box.new w _ _
  have HX := Lib.hid hx
  clear hx
  have HZ := Lib.hid (show endK l 0 = 0 by unfold endK; rw [dif_neg (by omega)])
  rw [← endK_end]
  go_enter Try.func23, Try.ntmps23
  go_wp2
  go_loopw [3, 4] (fun e i wr => ∃ k : Nat, k ≤ l.length ∧ e = .int .i64 (endK l k) ∧ i = .int .i64 k ∧ Below w.heap.size w wr ∧ Box wr w.heap.size 24 [.int .i64 id, .int .i64 born, .int .i64 a, .int .i64 b, .int .i64 ser, .slice x l.length cap]) (fun _ i _ => l.length - (intOf i).toNat)
  case atStart => exact ⟨0, Nat.zero_le _, by rw [HZ.out], rfl, by first | exact HA.out | exact bn HA.out _, by first | exact HX.out | exact HX.out.dr _⟩
  case round =>
    obtain ⟨k, hk, rfl, rfl, hbw, hx⟩ := hrel
    have HBW := Lib.hid hbw
    have k5 := hx.cell 5
    simp only [List.getElem?_cons_zero, List.getElem?_cons_succ] at k5
    have HXW := Lib.hid hx
    clear hx
    by_cases hlt : k < l.length
    · obtain ⟨g, off, rfl, hbl, hc⟩ := H3.out (by omega)
      obtain ⟨q0, q1⟩ := eS_at hc k hlt
      have d1 := (hbw.cell (p := ⟨g, off + k * 2 + 1, none⟩) hbl).trans q1
      have i1 : (k : Int) < (l.length : Int) := by omega
      have i0 : (0 : Int) ≤ (k : Int) := by omega
      have HS := Lib.hid (endK_succ l k hlt)
      clear hc q0 q1 hbw H3 HA HX HZ
      obtain ⟨e0, he0⟩ : ∃ e, endK l k = e := ⟨_, rfl⟩
      rw [he0]
      clear he0
      obtain ⟨Q, hQ⟩ : ∃ Q, l[k].2 = Q := ⟨_, rfl⟩
      rw [hQ] at d1 HS
      clear hQ
      go_wp2
      go_roundw
      case rel => exact ⟨k + 1, by omega, by rw [HS.out], by go_num, HBW.out, HXW.out⟩
      case measure => simp [intOf]; omega
    · have i1 : ¬ (k : Int) < (l.length : Int) := by omega
      have hkk : k = l.length := by omega
      subst hkk
      obtain ⟨e0, he0⟩ : ∃ e, endK l l.length = e := ⟨_, rfl⟩
      rw [he0]
      have HE0 := Lib.hid he0
      clear he0 H3 HA HX HZ
      go_wp2
      go_ret
      exact ⟨by rw [HE0.out]; rfl, HBW.out⟩
set_option maxRecDepth 100000 in
set_option maxHeartbeats 800000 in
theorem replaceR_any (p : Ps) (d : Value) (l : List Sp) (w : World) (h : RdE elS w d l) : Calls Try.prog 14 #[aP p d] w (PassQ d (if repE p l = 0 then repP p else p0) (if repE p l = 0 then l else []) (repE p l) w) := by
  have C1 := Lib.hid (fun w' (hb : Below w.heap.size w w') => checkR_any p d l w' (h.below hb))
  have HE := Lib.hid (fun (hz : passE p l = 0) => passE_ok.1 hz)
  have HV := Lib.hid h
  unfold repE
  obtain ⟨E, hE⟩ : ∃ E, passE p l = E := ⟨_, rfl⟩
  rw [hE] at C1 HE ⊢
  clear hE
  obtain ⟨id, born, a, b, ser⟩ := p
  obtain ⟨x, cap, rfl, _, _, _⟩ := h
  simp only [repP]
  have HA := Lib.hid (((br w).alloc (Nat.le_refl _) (.cells #[.int .i64 id, .int .i64 born, .int .i64 a, .int .i64 b, .int .i64 ser, .slice x l.length cap] 24)).alloc (by simp) (.cells #[.int .i64 0, .int .i64 0, .int .i64 0, .int .i64 0, .int .i64 0, .slice none 0 0] 24))
  have hx : Pb (w.alloc (.cells #[.int .i64 id, .int .i64 born, .int .i64 a, .int .i64 b, .int .i64 ser, .slice x l.length cap] 24)) w.heap.size ⟨id, born, a, b, ser⟩ (.slice x l.length cap) := Box.new w _ _
  have HX := Lib.hid (Box.alloc hx (.cells #[.int .i64 0, .int .i64 0, .int .i64 0, .int .i64 0, .int .i64 0, .slice none 0 0] 24))
  have hy : Pb ((w.alloc (.cells #[.int .i64 id, .int .i64 born, .int .i64 a, .int .i64 b, .int .i64 ser, .slice x l.length cap] 24)).alloc (.cells #[.int .i64 0, .int .i64 0, .int .i64 0, .int .i64 0, .int .i64 0, .slice none 0 0] 24)) (w.alloc (.cells #[.int .i64 id, .int .i64 born, .int .i64 a, .int .i64 b, .int .i64 ser, .slice x l.length cap] 24)).heap.size ⟨0, 0, 0, 0, 0⟩ (.slice none 0 0) := Box.new _ _ _
  rw [asz] at hy
  have HY := Lib.hid hy
  clear hy hx
  by_cases c : E = 0
  · subst c
    obtain ⟨⟨_, _, _, _, _, _, s1, s2⟩, _, _⟩ := HE.out rfl
    simp only at s1 s2
    rw [if_pos (show (0 : Int) = 0 from rfl)]
    by_cases c9 : ser = 999
    · subst c9
      rw [if_pos rfl, if_neg (by decide), if_neg (by decide)]
      go_enter Try.func14, Try.ntmps14
      go_wp2_with fail
      refine (C1.out _ (by first | exact HA.out | exact bn HA.out _)).mono ?_
      rintro en w2 ⟨rfl, b2⟩
      have HB := Lib.hid (bt HA.out b2)
      have hx := HX.out.next b2
      have hy := HY.out.next b2
      have hlt := hy.lt
      have hlt0 := hx.lt
      have k0 := hx.cell 0; have k1 := hx.cell 1; have k2 := hx.cell 2; have k3 := hx.cell 3; have k4 := hx.cell 4; have k5 := hx.cell 5
      simp only [List.getElem?_cons_zero, List.getElem?_cons_succ] at k0 k1 k2 k3 k4 k5
      have z0 := hy.cell 0; have z1 := hy.cell 1; have z2 := hy.cell 2; have z3 := hy.cell 3; have z4 := hy.cell 4; have z5 := hy.cell 5
      simp only [List.getElem?_cons_zero, List.getElem?_cons_succ] at z0 z1 z2 z3 z4 z5
      have f0 := hy.froz 0; have f1 := hy.froz 1; have f2 := hy.froz 2; have f3 := hy.froz 3; have f4 := hy.froz 4; have f5 := hy.froz 5
      have HY2 := Lib.hid hy
      clear b2 hx hy HX HA HY C1
      go_wp2
      have P := Pb.put HY2.out ⟨0, 0, 0, 0, 0⟩ (.slice none 0 0)
      have Q := below6 HB.out (b := w.heap.size + 1) (by omega) (.int .i64 0) (.int .i64 0) (.int .i64 0) (.int .i64 0) (.int .i64 0) ((.slice none 0 0))
      generalize (((((w2.setCell ⟨w.heap.size + 1, 0, none⟩ (.int .i64 0)).setCell ⟨w.heap.size + 1, 1, none⟩ (.int .i64 0)).setCell ⟨w.heap.size + 1, 2, none⟩ (.int .i64 0)).setCell ⟨w.heap.size + 1, 3, none⟩ (.int .i64 0)).setCell ⟨w.heap.size + 1, 4, none⟩ (.int .i64 0)).setCell ⟨w.heap.size + 1, 5, none⟩ ((.slice none 0 0)) = W2 at P Q ⊢
      have y0 := P.cell 0; have y1 := P.cell 1; have y2 := P.cell 2; have y3 := P.cell 3; have y4 := P.cell 4; have y5 := P.cell 5
      simp only [List.getElem?_cons_zero, List.getElem?_cons_succ] at y0 y1 y2 y3 y4 y5
      refine bodyPost_ret (v := .tuple #[aP ⟨0, 0, 0, 0, 0⟩ (.slice none 0 0), .int .i64 2]) (by simp [results, Try.results14, go_sem, y0, y1, y2, y3, y4, y5]) rfl ⟨_, rfl, rd_nil _, fun _ _ _ => off_nil _, Q⟩
    · rw [if_neg c9, if_pos rfl, if_pos rfl]
      have h9 : (ser == 999) = false := by simpa using c9
      go_enter Try.func14, Try.ntmps14
      go_wp2_with fail
      refine (C1.out _ (by first | exact HA.out | exact bn HA.out _)).mono ?_
      rintro en w2 ⟨rfl, b2⟩
      have HB := Lib.hid (bt HA.out b2)
      have hx := HX.out.next b2
      have hy := HY.out.next b2
      have hlt := hy.lt
      have hlt0 := hx.lt
      have k0 := hx.cell 0; have k1 := hx.cell 1; have k2 := hx.cell 2; have k3 := hx.cell 3; have k4 := hx.cell 4; have k5 := hx.cell 5
      simp only [List.getElem?_cons_zero, List.getElem?_cons_succ] at k0 k1 k2 k3 k4 k5
      have f0 := hx.froz 0; have f1 := hx.froz 1; have f2 := hx.froz 2; have f3 := hx.froz 3; have f4 := hx.froz 4; have f5 := hx.froz 5
      have HX5 := Lib.hid (hx.set 4 (.int .i64 (ser + 1)))
      have HB5 := Lib.hid (HB.out.setCell (p := ⟨w.heap.size, 4, none⟩) (Nat.le_refl _) (.int .i64 (ser + 1)))
      have HY5 := Lib.hid (hy.other w.heap.size 4 (.int .i64 (ser + 1)) (by omega))
      have HV5 := Lib.hid (HV.out.below HB5.out)
      clear b2 hx hy HX HA HY C1 HB
      go_upto_region 7 with (fail)
      generalize w2.setCell ⟨w.heap.size, 4, none⟩ (.int .i64 (ser + 1)) = W5 at HX5 HB5 HV5 HY5 ⊢
      clear k0 k1 k2 k3 k4 k5 f0 f1 f2 f3 f4 f5 hlt hlt0
      have hx := HX5.out
      have hy := HY5.out
      have hlt2 := hy.lt
      simp only [List.set_cons_zero, List.set_cons_succ] at hx
      have k0 := hx.cell 0; have k1 := hx.cell 1; have k2 := hx.cell 2; have k3 := hx.cell 3; have k4 := hx.cell 4; have k5 := hx.cell 5
      simp only [List.getElem?_cons_zero, List.getElem?_cons_succ] at k0 k1 k2 k3 k4 k5
      have z0 := hy.cell 0; have z1 := hy.cell 1; have z2 := hy.cell 2; have z3 := hy.cell 3; have z4 := hy.cell 4; have z5 := hy.cell 5
      simp only [List.getElem?_cons_zero, List.getElem?_cons_succ] at z0 z1 z2 z3 z4 z5
      have f0 := hy.froz 0; have f1 := hy.froz 1; have f2 := hy.froz 2; have f3 := hy.froz 3; have f4 := hy.froz 4; have f5 := hy.froz 5
      clear hx hy HX5
      go_wp2
      have P := Pb.put HY5.out ⟨id, born, a, b, ser + 1⟩ (.slice x l.length cap)
      have Q := below6 HB5.out (b := w.heap.size + 1) (by omega) (.int .i64 id) (.int .i64 born) (.int .i64 a) (.int .i64 b) (.int .i64 (ser + 1)) ((.slice x l.length cap))
      have R := rd_put6 (b := w.heap.size + 1) HV5.out (off_rd HV.out (by omega)) (.int .i64 id) (.int .i64 born) (.int .i64 a) (.int .i64 b) (.int .i64 (ser + 1)) ((.slice x l.length cap))
      generalize (((((W5.setCell ⟨w.heap.size + 1, 0, none⟩ (.int .i64 id)).setCell ⟨w.heap.size + 1, 1, none⟩ (.int .i64 born)).setCell ⟨w.heap.size + 1, 2, none⟩ (.int .i64 a)).setCell ⟨w.heap.size + 1, 3, none⟩ (.int .i64 b)).setCell ⟨w.heap.size + 1, 4, none⟩ (.int .i64 (ser + 1))).setCell ⟨w.heap.size + 1, 5, none⟩ ((.slice x l.length cap)) = W2 at P Q R ⊢
      have y0 := P.cell 0; have y1 := P.cell 1; have y2 := P.cell 2; have y3 := P.cell 3; have y4 := P.cell 4; have y5 := P.cell 5
      simp only [List.getElem?_cons_zero, List.getElem?_cons_succ] at y0 y1 y2 y3 y4 y5
      refine bodyPost_ret (v := .tuple #[aP ⟨id, born, a, b, ser + 1⟩ (.slice x l.length cap), .int .i64 0]) (by simp [results, Try.results14, go_sem, y0, y1, y2, y3, y4, y5]) rfl ⟨_, rfl, R, fun b hb h => h, Q⟩
  · rw [if_neg c, if_neg c, if_neg c]
    have hz : (E == 0) = false := by simpa using c
    go_enter Try.func14, Try.ntmps14
    go_wp2_with fail
    refine (C1.out _ (by first | exact HA.out | exact bn HA.out _)).mono ?_
    rintro en w2 ⟨rfl, b2⟩
    have HB := Lib.hid (bt HA.out b2)
    have hx := HX.out.next b2
    have hy := HY.out.next b2
    have hlt := hy.lt
    have hlt0 := hx.lt
    have k0 := hx.cell 0; have k1 := hx.cell 1; have k2 := hx.cell 2; have k3 := hx.cell 3; have k4 := hx.cell 4; have k5 := hx.cell 5
    simp only [List.getElem?_cons_zero, List.getElem?_cons_succ] at k0 k1 k2 k3 k4 k5
    have z0 := hy.cell 0; have z1 := hy.cell 1; have z2 := hy.cell 2; have z3 := hy.cell 3; have z4 := hy.cell 4; have z5 := hy.cell 5
    simp only [List.getElem?_cons_zero, List.getElem?_cons_succ] at z0 z1 z2 z3 z4 z5
    have f0 := hy.froz 0; have f1 := hy.froz 1; have f2 := hy.froz 2; have f3 := hy.froz 3; have f4 := hy.froz 4; have f5 := hy.froz 5
    have HY2 := Lib.hid hy
    clear b2 hx hy HX HA HY C1
    go_wp2
    have P := Pb.put HY2.out ⟨0, 0, 0, 0, 0⟩ (.slice none 0 0)
    have Q := below6 HB.out (b := w.heap.size + 1) (by omega) (.int .i64 0) (.int .i64 0) (.int .i64 0) (.int .i64 0) (.int .i64 0) ((.slice none 0 0))
    generalize (((((w2.setCell ⟨w.heap.size + 1, 0, none⟩ (.int .i64 0)).setCell ⟨w.heap.size + 1, 1, none⟩ (.int .i64 0)).setCell ⟨w.heap.size + 1, 2, none⟩ (.int .i64 0)).setCell ⟨w.heap.size + 1, 3, none⟩ (.int .i64 0)).setCell ⟨w.heap.size + 1, 4, none⟩ (.int .i64 0)).setCell ⟨w.heap.size + 1, 5, none⟩ ((.slice none 0 0)) = W2 at P Q ⊢
    have y0 := P.cell 0; have y1 := P.cell 1; have y2 := P.cell 2; have y3 := P.cell 3; have y4 := P.cell 4; have y5 := P.cell 5
    simp only [List.getElem?_cons_zero, List.getElem?_cons_succ] at y0 y1 y2 y3 y4 y5
    refine bodyPost_ret (v := .tuple #[aP ⟨0, 0, 0, 0, 0⟩ (.slice none 0 0), .int .i64 E]) (by simp [results, Try.results14, go_sem, y0, y1, y2, y3, y4, y5]) rfl ⟨_, rfl, rd_nil _, fun _ _ _ => off_nil _, Q⟩
end Pa
end Go.Proofs.Ytcgncmlldjblmaa
/- Passes: the document's: one renewed. (gen_pass3.py) -/
set_option linter.unusedVariables false
namespace Go.Proofs.Ytcgncmlldjblmaa
open Go.RowKit
namespace Pa
open Dt Sn
theorem nth_one {u N s T : Int} (h : nthF u N s 1 = (T, 0)) : 1 ≤ s ∧ s < T ∧ T ≤ 3652059 := by
  rcases nth_cases u N s 1 with ⟨c, hc, h0⟩ | ⟨⟨_, _, n1, _⟩, ⟨s1, s2, _, _⟩, hle, he⟩
  · rw [hc] at h; injection h with _ h; exact absurd h h0
  · rw [he] at h; injection h with h _
    have := rawT_lt (u := u) (N := N) (k := 0) (j := 1) (Int.le_refl s) s1 s2 n1 (by omega) (by omega) hle
    rw [rawT_zero s1 s2] at this
    exact ⟨s1, by omega, by omega⟩
def renG (p : Ps) (l : List Sp) (n u N : Int) : R3 := if passE p l = 0 then (if isD n = false then ((p0, []), 0, 3) else if (nthF u N (frm l n) 1).2 = 0 then (if bothE 0 l (oneL (frm l n) u N) = 0 then (if passE p (bothR 0 l (oneL (frm l n) u N)) = 0 then ((p, bothR 0 l (oneL (frm l n) u N)), (nthF u N (frm l n) 1).1 - frm l n, 0) else ((p0, []), 0, passE p (bothR 0 l (oneL (frm l n) u N)))) else ((p0, []), 0, bothE 0 l (oneL (frm l n) u N))) else ((p0, []), 0, (nthF u N (frm l n) 1).2)) else ((p0, []), 0, passE p l)
set_option maxRecDepth 100000 in
set_option maxHeartbeats 800000 in
theorem renewR_any (p : Ps) (d : Value) (l : List Sp) (n u N : Int) (w : World) (h : RdE elS w d l) : Calls Try.prog 21 #[aP p d, .int .i64 n, aT u N] w (R3Q (.slice none 0 0) (renG p l n u N) w) := by
  have C1 := Lib.hid (fun w' (hb : Below w.heap.size w w') => checkR_any p d l w' (h.below hb))
  have C3 := Lib.hid (fun w' (hb : Below w.heap.size w w') => endR_any p d l w' (h.below hb))
  have C6 := Lib.hid (fun f m w' (hf : RdE elS w' f m) => checkR_any p f m w' hf)
  have C5 := Lib.hid (fun f m w' (hb : Below w.heap.size w w') (hf : RdE elS w' f m) => bothR_any 0 (.inl rfl) d f l m w' (h.below hb) hf)
  have hn := fun w' => nthR_any (frm l n) u N 1 w'
  unfold Dt.PairQ at hn
  have HI := Lib.hid (fun w => noDay_any n w)
  have HB1 := Lib.hid (fun T hh => nth_one (u := u) (N := N) (s := frm l n) (T := T) hh)
  unfold renG oneL
  obtain ⟨r, hr⟩ : ∃ r, nthF u N (frm l n) 1 = r := ⟨_, rfl⟩
  rw [hr] at hn HB1 ⊢
  clear hr
  obtain ⟨T, E4⟩ := r
  try simp only at hn ⊢
  unfold aT at hn ⊢
  have C4 := Lib.hid hn
  clear hn
  obtain ⟨F, hF⟩ : ∃ F, frm l n = F := ⟨_, rfl⟩
  rw [hF] at C4 HB1 ⊢
  unfold frm at hF
  obtain ⟨en, hen⟩ : ∃ e, endD l = e := ⟨_, rfl⟩
  rw [hen] at C3 hF
  clear hen
  obtain ⟨E, hE⟩ : ∃ E, passE p l = E := ⟨_, rfl⟩
  rw [hE] at C1 ⊢
  clear hE
  obtain ⟨id, born, a, b, ser⟩ := p
  obtain ⟨x, cap, rfl, _, _, _⟩ := h
  have HA := Lib.hid ((((br w).alloc (Nat.le_refl _) (.cells #[.int .i64 id, .int .i64 born, .int .i64 a, .int .i64 b, .int .i64 ser, .slice x l.length cap] 24)).alloc (by simp) (.cells #[.int .i64 u, .int .i64 N] 26)).alloc (by simp; omega) (.cells #[.int .i64 0, .int .i64 0, .int .i64 0, .int .i64 0, .int .i64 0, .slice none 0 0] 24))
  have hx : Pb (w.alloc (.cells #[.int .i64 id, .int .i64 born, .int .i64 a, .int .i64 b, .int .i64 ser, .slice x l.length cap] 24)) w.heap.size ⟨id, born, a, b, ser⟩ (.slice x l.length cap) := Box.new w _ _
  have HX := Lib.hid (Box.alloc (Box.alloc hx (.cells #[.int .i64 u, .int .i64 N] 26)) (.cells #[.int .i64 0, .int .i64 0, .int .i64 0, .int .i64 0, .int .i64 0, .slice none 0 0] 24))
  have ht : Box ((w.alloc (.cells #[.int .i64 id, .int .i64 born, .int .i64 a, .int .i64 b, .int .i64 ser, .slice x l.length cap] 24)).alloc (.cells #[.int .i64 u, .int .i64 N] 26)) (w.alloc (.cells #[.int .i64 id, .int .i64 born, .int .i64 a, .int .i64 b, .int .i64 ser, .slice x l.length cap] 24)).heap.size 26 [.int .i64 u, .int .i64 N] := Box.new _ _ _
  rw [asz] at ht
  have HT := Lib.hid (Box.alloc ht (.cells #[.int .i64 0, .int .i64 0, .int .i64 0, .int .i64 0, .int .i64 0, .slice none 0 0] 24))
  have hy : Pb (((w.alloc (.cells #[.int .i64 id, .int .i64 born, .int .i64 a, .int .i64 b, .int .i64 ser, .slice x l.length cap] 24)).alloc (.cells #[.int .i64 u, .int .i64 N] 26)).alloc (.cells #[.int .i64 0, .int .i64 0, .int .i64 0, .int .i64 0, .int .i64 0, .slice none 0 0] 24)) ((w.alloc (.cells #[.int .i64 id, .int .i64 born, .int .i64 a, .int .i64 b, .int .i64 ser, .slice x l.length cap] 24)).alloc (.cells #[.int .i64 u, .int .i64 N] 26)).heap.size ⟨0, 0, 0, 0, 0⟩ (.slice none 0 0) := Box.new _ _ _
  rw [asz, asz] at hy
  have HY := Lib.hid hy
  clear hy hx ht
  by_cases c : E = 0
  · subst c
    rw [if_pos (show (0 : Int) = 0 from rfl)]
    cases hD : isD n with
    | false =>
      rw [if_pos rfl]
      rw [hD] at HI
      clear hD C6 C3 C4 C5 HB1
      go_enter Try.func21, Try.ntmps21
      go_wp2_with fail
      refine (C1.out _ (by first | exact HA.out | exact bn HA.out _)).mono ?_
      rintro en w2 ⟨rfl, b2⟩
      have HB := Lib.hid (bt HA.out b2)
      have hx := HX.out.next b2
      have hy := HY.out.next b2
      have ht := HT.out.next b2
      have hlt := hy.lt
      have hlt0 := hx.lt
      have hlt1 := ht.lt
      have k0 := hx.cell 0; have k1 := hx.cell 1; have k2 := hx.cell 2; have k3 := hx.cell 3; have k4 := hx.cell 4; have k5 := hx.cell 5
      simp only [List.getElem?_cons_zero, List.getElem?_cons_succ] at k0 k1 k2 k3 k4 k5
      have t0 := ht.cell 0; have t1 := ht.cell 1
      simp only [List.getElem?_cons_zero, List.getElem?_cons_succ] at t0 t1
      have z0 := hy.cell 0; have z1 := hy.cell 1; have z2 := hy.cell 2; have z3 := hy.cell 3; have z4 := hy.cell 4; have z5 := hy.cell 5
      simp only [List.getElem?_cons_zero, List.getElem?_cons_succ] at z0 z1 z2 z3 z4 z5
      have f0 := hy.froz 0; have f1 := hy.froz 1; have f2 := hy.froz 2; have f3 := hy.froz 3; have f4 := hy.froz 4; have f5 := hy.froz 5
      have HX2 := Lib.hid hx; have HY2 := Lib.hid hy; have HT2 := Lib.hid ht
      clear b2 hx hy ht HX HA HY HT C1
      go_wp2_with (first | (go_at_call 32; (with_reducible refine (HI.out _).mono ?_); rintro en w3 ⟨rfl, rfl⟩))
      have P := Pb.put HY2.out ⟨0, 0, 0, 0, 0⟩ (.slice none 0 0)
      have Q := below6 HB.out (b := w.heap.size + 2) (by omega) (.int .i64 0) (.int .i64 0) (.int .i64 0) (.int .i64 0) (.int .i64 0) ((.slice none 0 0))
      generalize (((((w2.setCell ⟨w.heap.size + 2, 0, none⟩ (.int .i64 0)).setCell ⟨w.heap.size + 2, 1, none⟩ (.int .i64 0)).setCell ⟨w.heap.size + 2, 2, none⟩ (.int .i64 0)).setCell ⟨w.heap.size + 2, 3, none⟩ (.int .i64 0)).setCell ⟨w.heap.size + 2, 4, none⟩ (.int .i64 0)).setCell ⟨w.heap.size + 2, 5, none⟩ ((.slice none 0 0)) = W2 at P Q ⊢
      have y0 := P.cell 0; have y1 := P.cell 1; have y2 := P.cell 2; have y3 := P.cell 3; have y4 := P.cell 4; have y5 := P.cell 5
      simp only [List.getElem?_cons_zero, List.getElem?_cons_succ] at y0 y1 y2 y3 y4 y5
      refine bodyPost_ret (v := .tuple #[aP ⟨0, 0, 0, 0, 0⟩ (.slice none 0 0), .int .i64 0, .int .i64 3]) (by simp [results, Try.results21, go_sem, y0, y1, y2, y3, y4, y5]) rfl ⟨_, rfl, rd_nil _, fun _ _ _ => off_nil _, Q⟩
    | true =>
      rw [if_neg (by simp)]
      rw [hD] at HI
      clear hD
      obtain ⟨R, hR⟩ : ∃ R : R3, (if E4 = 0 then (if bothE 0 l (if E4 = 0 then [(F, T)] else []) = 0 then (if passE ⟨id, born, a, b, ser⟩ (bothR 0 l (if E4 = 0 then [(F, T)] else [])) = 0 then ((⟨id, born, a, b, ser⟩, bothR 0 l (if E4 = 0 then [(F, T)] else [])), T - F, 0) else ((p0, []), 0, passE ⟨id, born, a, b, ser⟩ (bothR 0 l (if E4 = 0 then [(F, T)] else [])))) else ((p0, []), 0, bothE 0 l (if E4 = 0 then [(F, T)] else []))) else ((p0, []), 0, E4)) = R := ⟨_, rfl⟩
      rw [hR]
      have HR := Lib.hid hR
      clear hR
      by_cases cF : en < n
      · have hFe : F = n := by rw [← hF, Int.max_def]; split <;> omega
        subst hFe
        clear hF
        go_enter Try.func21, Try.ntmps21
        go_wp2_with fail
        refine (C1.out _ (by first | exact HA.out | exact bn HA.out _)).mono ?_
        rintro en w2 ⟨rfl, b2⟩
        have HB := Lib.hid (bt HA.out b2)
        have hx := HX.out.next b2
        have hy := HY.out.next b2
        have ht := HT.out.next b2
        have hlt := hy.lt
        have hlt0 := hx.lt
        have hlt1 := ht.lt
        have k0 := hx.cell 0; have k1 := hx.cell 1; have k2 := hx.cell 2; have k3 := hx.cell 3; have k4 := hx.cell 4; have k5 := hx.cell 5
        simp only [List.getElem?_cons_zero, List.getElem?_cons_succ] at k0 k1 k2 k3 k4 k5
        have t0 := ht.cell 0; have t1 := ht.cell 1
        simp only [List.getElem?_cons_zero, List.getElem?_cons_succ] at t0 t1
        have HX2 := Lib.hid hx; have HY2 := Lib.hid hy; have HT2 := Lib.hid ht
        clear b2 hx hy ht HX HA HY HT C1
        go_wp2_with (first | (go_at_call 32; (with_reducible refine (HI.out _).mono ?_); rintro en w3 ⟨rfl, rfl⟩))
        refine (C3.out _ HB.out).mono ?_
        rintro en2 w3 ⟨rfl, b3⟩
        have HB3 := Lib.hid (bt HB.out b3)
        have hx := HX2.out.next b3
        have ht := HT2.out.next b3
        have HY3 := Lib.hid (HY2.out.next b3)
        clear k0 k1 k2 k3 k4 k5 t0 t1 b3 HX2 HT2 HY2 HB hlt hlt0 hlt1
        have k0 := hx.cell 0; have k1 := hx.cell 1; have k2 := hx.cell 2; have k3 := hx.cell 3; have k4 := hx.cell 4; have k5 := hx.cell 5
        simp only [List.getElem?_cons_zero, List.getElem?_cons_succ] at k0 k1 k2 k3 k4 k5
        have t0 := ht.cell 0; have t1 := ht.cell 1
        simp only [List.getElem?_cons_zero, List.getElem?_cons_succ] at t0 t1
        have HX3 := Lib.hid hx; have HT3 := Lib.hid ht
        clear hx ht
        go_wp2_with fail
        refine (C4.out _).mono ?_
        rintro en3 w4 ⟨rfl, b4⟩
        have HB4 := Lib.hid (bt HB3.out b4)
        have hx := HX3.out.next b4
        have HY4 := Lib.hid (HY3.out.next b4)
        clear k0 k1 k2 k3 k4 k5 t0 t1 b4 HX3 HT3 HY3 HB3
        have k0 := hx.cell 0; have k1 := hx.cell 1; have k2 := hx.cell 2; have k3 := hx.cell 3; have k4 := hx.cell 4; have k5 := hx.cell 5
        simp only [List.getElem?_cons_zero, List.getElem?_cons_succ] at k0 k1 k2 k3 k4 k5
        have HX4 := Lib.hid hx
        have hlt := hx.lt
        clear hx
        have hR := HR.out
        clear HR
        by_cases c4 : E4 = 0
        · subst c4
          have hbd := HB1.out T rfl
          rw [if_pos rfl, if_pos rfl] at hR
          obtain ⟨E5, hE5⟩ : ∃ E, bothE 0 l [(F, T)] = E := ⟨_, rfl⟩
          obtain ⟨M0, hM0⟩ : ∃ E, bothR 0 l [(F, T)] = E := ⟨_, rfl⟩
          have c5q := fun f w' hb hf => C5.out f [(F, T)] w' hb hf
          rw [hE5, hM0] at c5q hR
          obtain ⟨E6, hE6⟩ : ∃ E, passE ⟨id, born, a, b, ser⟩ M0 = E := ⟨_, rfl⟩
          have c6q := fun f w' hf => C6.out f M0 w' hf
          rw [hE6] at c6q hR
          have HC5 := Lib.hid c5q; have HC6 := Lib.hid c6q
          have HL := Lib.hid (rd_lit elS [(F, T)] w4 51 (0, 0) w4.heap.size rfl (by simp [maxLen]))
          have HR2 := Lib.hid hR
          clear hE5 hM0 hE6 c5q c6q C5 C6 hR
          go_wp2_with fail
          refine (HC5.out _ _ (HB4.out.alloc HB4.out.size _) HL.out).mono ?_
          rintro en4 w5 ⟨v5, rfl, ho5, b5⟩
          have HB5 := Lib.hid (bt (HB4.out.alloc HB4.out.size _) b5)
          have hx := (HX4.out.alloc _).next b5
          have HY5 := Lib.hid ((HY4.out.alloc _).next b5)
          have HV5 := Lib.hid ho5.rd
          have hlt4 := HY4.out.lt
          have HO5 := Lib.hid (fun b (hb : b < w.heap.size + 3) => off_own ho5 (b := b) (by simp; omega))
          obtain ⟨x5, cap5, rfl, _, _, _⟩ := ho5.rd
          clear ho5 b5 k0 k1 k2 k3 k4 k5 HL HX4 HY4 HC5
          have k0 := hx.cell 0; have k1 := hx.cell 1; have k2 := hx.cell 2; have k3 := hx.cell 3; have k4 := hx.cell 4; have k5 := hx.cell 5
          simp only [List.getElem?_cons_zero, List.getElem?_cons_succ] at k0 k1 k2 k3 k4 k5
          have hlt := hx.lt
          clear hx
          have hR := HR2.out
          clear HR2
          by_cases c5 : E5 = 0
          · subst c5
            rw [if_pos rfl] at hR
            have HR3 := Lib.hid hR
            clear hR
            go_wp2_with fail
            have hq : Pb (w5.alloc (.cells #[.int .i64 id, .int .i64 born, .int .i64 a, .int .i64 b, .int .i64 ser, .slice x5 M0.length cap5] 24)) w5.heap.size ⟨id, born, a, b, ser⟩ (.slice x5 M0.length cap5) := Box.new w5 _ _
            refine (HC6.out _ _ (HV5.out.below ((br w5).alloc (Nat.le_refl _) _))).mono ?_
            rintro en5 w6 ⟨rfl, b6⟩
            have HB6 := Lib.hid (bt (HB5.out.alloc HB5.out.size _) b6)
            have hq6 := hq.next b6
            have hy := (HY5.out.alloc _).next b6
            have HV6 := Lib.hid (Rd.below (HV5.out.below ((br w5).alloc (Nat.le_refl _) (.cells #[.int .i64 id, .int .i64 born, .int .i64 a, .int .i64 b, .int .i64 ser, .slice x5 M0.length cap5] 24))) b6)
            have hlt2 := hy.lt
            have hlt3 := hq6.lt
            clear k0 k1 k2 k3 k4 k5 b6 hq
          
            have k0 := hq6.cell 0; have k1 := hq6.cell 1; have k2 := hq6.cell 2; have k3 := hq6.cell 3; have k4 := hq6.cell 4; have k5 := hq6.cell 5
            simp only [List.getElem?_cons_zero, List.getElem?_cons_succ] at k0 k1 k2 k3 k4 k5
            have z0 := hy.cell 0; have z1 := hy.cell 1; have z2 := hy.cell 2; have z3 := hy.cell 3; have z4 := hy.cell 4; have z5 := hy.cell 5
            simp only [List.getElem?_cons_zero, List.getElem?_cons_succ] at z0 z1 z2 z3 z4 z5
            have f0 := hy.froz 0; have f1 := hy.froz 1; have f2 := hy.froz 2; have f3 := hy.froz 3; have f4 := hy.froz 4; have f5 := hy.froz 5
            have HY6 := Lib.hid hy
            have hR := HR3.out
            clear HR3 hq6 hy HY5 HB5 HC6 HV5
            by_cases c6 : E6 = 0
            · rw [if_pos c6] at hR
              subst c6
              subst hR
              go_wp2
              have P := Pb.put HY6.out ⟨id, born, a, b, ser⟩ (.slice x5 M0.length cap5)
              have Q := below6 HB6.out (b := w.heap.size + 2) (by omega) (.int .i64 id) (.int .i64 born) (.int .i64 a) (.int .i64 b) (.int .i64 ser) ((.slice x5 M0.length cap5))
              have R := rd_put6 (b := w.heap.size + 2) HV6.out (HO5.out _ (by omega)) (.int .i64 id) (.int .i64 born) (.int .i64 a) (.int .i64 b) (.int .i64 ser) ((.slice x5 M0.length cap5))
              generalize (((((w6.setCell ⟨w.heap.size + 2, 0, none⟩ (.int .i64 id)).setCell ⟨w.heap.size + 2, 1, none⟩ (.int .i64 born)).setCell ⟨w.heap.size + 2, 2, none⟩ (.int .i64 a)).setCell ⟨w.heap.size + 2, 3, none⟩ (.int .i64 b)).setCell ⟨w.heap.size + 2, 4, none⟩ (.int .i64 ser)).setCell ⟨w.heap.size + 2, 5, none⟩ ((.slice x5 M0.length cap5)) = W2 at P Q R ⊢
              have y0 := P.cell 0; have y1 := P.cell 1; have y2 := P.cell 2; have y3 := P.cell 3; have y4 := P.cell 4; have y5 := P.cell 5
              simp only [List.getElem?_cons_zero, List.getElem?_cons_succ] at y0 y1 y2 y3 y4 y5
              refine bodyPost_ret (v := .tuple #[aP ⟨id, born, a, b, ser⟩ (.slice x5 M0.length cap5), .int .i64 (T - F), .int .i64 0]) (by simp [results, Try.results21, go_sem, y0, y1, y2, y3, y4, y5]) rfl ⟨_, rfl, R, fun b hb _ => HO5.out b (by omega), Q⟩
            · rw [if_neg c6] at hR
              subst hR
              have hz : (E6 == 0) = false := by simpa using c6
              go_wp2
              have P := Pb.put HY6.out ⟨0, 0, 0, 0, 0⟩ (.slice none 0 0)
              have Q := below6 HB6.out (b := w.heap.size + 2) (by omega) (.int .i64 0) (.int .i64 0) (.int .i64 0) (.int .i64 0) (.int .i64 0) ((.slice none 0 0))
              generalize (((((w6.setCell ⟨w.heap.size + 2, 0, none⟩ (.int .i64 0)).setCell ⟨w.heap.size + 2, 1, none⟩ (.int .i64 0)).setCell ⟨w.heap.size + 2, 2, none⟩ (.int .i64 0)).setCell ⟨w.heap.size + 2, 3, none⟩ (.int .i64 0)).setCell ⟨w.heap.size + 2, 4, none⟩ (.int .i64 0)).setCell ⟨w.heap.size + 2, 5, none⟩ ((.slice none 0 0)) = W2 at P Q ⊢
              have y0 := P.cell 0; have y1 := P.cell 1; have y2 := P.cell 2; have y3 := P.cell 3; have y4 := P.cell 4; have y5 := P.cell 5
              simp only [List.getElem?_cons_zero, List.getElem?_cons_succ] at y0 y1 y2 y3 y4 y5
              refine bodyPost_ret (v := .tuple #[aP ⟨0, 0, 0, 0, 0⟩ (.slice none 0 0), .int .i64 0, .int .i64 E6]) (by simp [results, Try.results21, go_sem, y0, y1, y2, y3, y4, y5]) rfl ⟨_, rfl, rd_nil _, fun _ _ _ => off_nil _, Q⟩
          · rw [if_neg c5] at hR
            subst hR
            have hz : (E5 == 0) = false := by simpa using c5
            have hy := HY5.out
            have hlt2 := hy.lt
            have z0 := hy.cell 0; have z1 := hy.cell 1; have z2 := hy.cell 2; have z3 := hy.cell 3; have z4 := hy.cell 4; have z5 := hy.cell 5
            simp only [List.getElem?_cons_zero, List.getElem?_cons_succ] at z0 z1 z2 z3 z4 z5
            have f0 := hy.froz 0; have f1 := hy.froz 1; have f2 := hy.froz 2; have f3 := hy.froz 3; have f4 := hy.froz 4; have f5 := hy.froz 5
            clear hy HC6
            go_wp2
            have P := Pb.put HY5.out ⟨0, 0, 0, 0, 0⟩ (.slice none 0 0)
            have Q := below6 HB5.out (b := w.heap.size + 2) (by omega) (.int .i64 0) (.int .i64 0) (.int .i64 0) (.int .i64 0) (.int .i64 0) ((.slice none 0 0))
            generalize (((((w5.setCell ⟨w.heap.size + 2, 0, none⟩ (.int .i64 0)).setCell ⟨w.heap.size + 2, 1, none⟩ (.int .i64 0)).setCell ⟨w.heap.size + 2, 2, none⟩ (.int .i64 0)).setCell ⟨w.heap.size + 2, 3, none⟩ (.int .i64 0)).setCell ⟨w.heap.size + 2, 4, none⟩ (.int .i64 0)).setCell ⟨w.heap.size + 2, 5, none⟩ ((.slice none 0 0)) = W2 at P Q ⊢
            have y0 := P.cell 0; have y1 := P.cell 1; have y2 := P.cell 2; have y3 := P.cell 3; have y4 := P.cell 4; have y5 := P.cell 5
            simp only [List.getElem?_cons_zero, List.getElem?_cons_succ] at y0 y1 y2 y3 y4 y5
            refine bodyPost_ret (v := .tuple #[aP ⟨0, 0, 0, 0, 0⟩ (.slice none 0 0), .int .i64 0, .int .i64 E5]) (by simp [results, Try.results21, go_sem, y0, y1, y2, y3, y4, y5]) rfl ⟨_, rfl, rd_nil _, fun _ _ _ => off_nil _, Q⟩
        · rw [if_neg c4] at hR
          subst hR
          have hz : (E4 == 0) = false := by simpa using c4
          have hy := HY4.out
          have hlt2 := hy.lt
          have z0 := hy.cell 0; have z1 := hy.cell 1; have z2 := hy.cell 2; have z3 := hy.cell 3; have z4 := hy.cell 4; have z5 := hy.cell 5
          simp only [List.getElem?_cons_zero, List.getElem?_cons_succ] at z0 z1 z2 z3 z4 z5
          have f0 := hy.froz 0; have f1 := hy.froz 1; have f2 := hy.froz 2; have f3 := hy.froz 3; have f4 := hy.froz 4; have f5 := hy.froz 5
          clear hy C5 C6
          go_wp2
          have P := Pb.put HY4.out ⟨0, 0, 0, 0, 0⟩ (.slice none 0 0)
          have Q := below6 HB4.out (b := w.heap.size + 2) (by omega) (.int .i64 0) (.int .i64 0) (.int .i64 0) (.int .i64 0) (.int .i64 0) ((.slice none 0 0))
          generalize (((((w4.setCell ⟨w.heap.size + 2, 0, none⟩ (.int .i64 0)).setCell ⟨w.heap.size + 2, 1, none⟩ (.int .i64 0)).setCell ⟨w.heap.size + 2, 2, none⟩ (.int .i64 0)).setCell ⟨w.heap.size + 2, 3, none⟩ (.int .i64 0)).setCell ⟨w.heap.size + 2, 4, none⟩ (.int .i64 0)).setCell ⟨w.heap.size + 2, 5, none⟩ ((.slice none 0 0)) = W2 at P Q ⊢
          have y0 := P.cell 0; have y1 := P.cell 1; have y2 := P.cell 2; have y3 := P.cell 3; have y4 := P.cell 4; have y5 := P.cell 5
          simp only [List.getElem?_cons_zero, List.getElem?_cons_succ] at y0 y1 y2 y3 y4 y5
          refine bodyPost_ret (v := .tuple #[aP ⟨0, 0, 0, 0, 0⟩ (.slice none 0 0), .int .i64 0, .int .i64 E4]) (by simp [results, Try.results21, go_sem, y0, y1, y2, y3, y4, y5]) rfl ⟨_, rfl, rd_nil _, fun _ _ _ => off_nil _, Q⟩
      · have hFe : F = en := by rw [← hF, Int.max_def]; split <;> omega
        subst hFe
        clear hF
        go_enter Try.func21, Try.ntmps21
        go_wp2_with fail
        refine (C1.out _ (by first | exact HA.out | exact bn HA.out _)).mono ?_
        rintro en w2 ⟨rfl, b2⟩
        have HB := Lib.hid (bt HA.out b2)
        have hx := HX.out.next b2
        have hy := HY.out.next b2
        have ht := HT.out.next b2
        have hlt := hy.lt
        have hlt0 := hx.lt
        have hlt1 := ht.lt
        have k0 := hx.cell 0; have k1 := hx.cell 1; have k2 := hx.cell 2; have k3 := hx.cell 3; have k4 := hx.cell 4; have k5 := hx.cell 5
        simp only [List.getElem?_cons_zero, List.getElem?_cons_succ] at k0 k1 k2 k3 k4 k5
        have t0 := ht.cell 0; have t1 := ht.cell 1
        simp only [List.getElem?_cons_zero, List.getElem?_cons_succ] at t0 t1
        have HX2 := Lib.hid hx; have HY2 := Lib.hid hy; have HT2 := Lib.hid ht
        clear b2 hx hy ht HX HA HY HT C1
        go_wp2_with (first | (go_at_call 32; (with_reducible refine (HI.out _).mono ?_); rintro en w3 ⟨rfl, rfl⟩))
        refine (C3.out _ HB.out).mono ?_
        rintro en2 w3 ⟨rfl, b3⟩
        have HB3 := Lib.hid (bt HB.out b3)
        have hx := HX2.out.next b3
        have ht := HT2.out.next b3
        have HY3 := Lib.hid (HY2.out.next b3)
        clear k0 k1 k2 k3 k4 k5 t0 t1 b3 HX2 HT2 HY2 HB hlt hlt0 hlt1
        have k0 := hx.cell 0; have k1 := hx.cell 1; have k2 := hx.cell 2; have k3 := hx.cell 3; have k4 := hx.cell 4; have k5 := hx.cell 5
        simp only [List.getElem?_cons_zero, List.getElem?_cons_succ] at k0 k1 k2 k3 k4 k5
        have t0 := ht.cell 0; have t1 := ht.cell 1
        simp only [List.getElem?_cons_zero, List.getElem?_cons_succ] at t0 t1
        have HX3 := Lib.hid hx; have HT3 := Lib.hid ht
        clear hx ht
        go_wp2_with fail
        refine (C4.out _).mono ?_
        rintro en3 w4 ⟨rfl, b4⟩
        have HB4 := Lib.hid (bt HB3.out b4)
        have hx := HX3.out.next b4
        have HY4 := Lib.hid (HY3.out.next b4)
        clear k0 k1 k2 k3 k4 k5 t0 t1 b4 HX3 HT3 HY3 HB3
        have k0 := hx.cell 0; have k1 := hx.cell 1; have k2 := hx.cell 2; have k3 := hx.cell 3; have k4 := hx.cell 4; have k5 := hx.cell 5
        simp only [List.getElem?_cons_zero, List.getElem?_cons_succ] at k0 k1 k2 k3 k4 k5
        have HX4 := Lib.hid hx
        have hlt := hx.lt
        clear hx
        have hR := HR.out
        clear HR
        by_cases c4 : E4 = 0
        · subst c4
          have hbd := HB1.out T rfl
          rw [if_pos rfl, if_pos rfl] at hR
          obtain ⟨E5, hE5⟩ : ∃ E, bothE 0 l [(F, T)] = E := ⟨_, rfl⟩
          obtain ⟨M0, hM0⟩ : ∃ E, bothR 0 l [(F, T)] = E := ⟨_, rfl⟩
          have c5q := fun f w' hb hf => C5.out f [(F, T)] w' hb hf
          rw [hE5, hM0] at c5q hR
          obtain ⟨E6, hE6⟩ : ∃ E, passE ⟨id, born, a, b, ser⟩ M0 = E := ⟨_, rfl⟩
          have c6q := fun f w' hf => C6.out f M0 w' hf
          rw [hE6] at c6q hR
          have HC5 := Lib.hid c5q; have HC6 := Lib.hid c6q
          have HL := Lib.hid (rd_lit elS [(F, T)] w4 51 (0, 0) w4.heap.size rfl (by simp [maxLen]))
          have HR2 := Lib.hid hR
          clear hE5 hM0 hE6 c5q c6q C5 C6 hR
          go_wp2_with fail
          refine (HC5.out _ _ (HB4.out.alloc HB4.out.size _) HL.out).mono ?_
          rintro en4 w5 ⟨v5, rfl, ho5, b5⟩
          have HB5 := Lib.hid (bt (HB4.out.alloc HB4.out.size _) b5)
          have hx := (HX4.out.alloc _).next b5
          have HY5 := Lib.hid ((HY4.out.alloc _).next b5)
          have HV5 := Lib.hid ho5.rd
          have hlt4 := HY4.out.lt
          have HO5 := Lib.hid (fun b (hb : b < w.heap.size + 3) => off_own ho5 (b := b) (by simp; omega))
          obtain ⟨x5, cap5, rfl, _, _, _⟩ := ho5.rd
          clear ho5 b5 k0 k1 k2 k3 k4 k5 HL HX4 HY4 HC5
          have k0 := hx.cell 0; have k1 := hx.cell 1; have k2 := hx.cell 2; have k3 := hx.cell 3; have k4 := hx.cell 4; have k5 := hx.cell 5
          simp only [List.getElem?_cons_zero, List.getElem?_cons_succ] at k0 k1 k2 k3 k4 k5
          have hlt := hx.lt
          clear hx
          have hR := HR2.out
          clear HR2
          by_cases c5 : E5 = 0
          · subst c5
            rw [if_pos rfl] at hR
            have HR3 := Lib.hid hR
            clear hR
            go_wp2_with fail
            have hq : Pb (w5.alloc (.cells #[.int .i64 id, .int .i64 born, .int .i64 a, .int .i64 b, .int .i64 ser, .slice x5 M0.length cap5] 24)) w5.heap.size ⟨id, born, a, b, ser⟩ (.slice x5 M0.length cap5) := Box.new w5 _ _
            refine (HC6.out _ _ (HV5.out.below ((br w5).alloc (Nat.le_refl _) _))).mono ?_
            rintro en5 w6 ⟨rfl, b6⟩
            have HB6 := Lib.hid (bt (HB5.out.alloc HB5.out.size _) b6)
            have hq6 := hq.next b6
            have hy := (HY5.out.alloc _).next b6
            have HV6 := Lib.hid (Rd.below (HV5.out.below ((br w5).alloc (Nat.le_refl _) (.cells #[.int .i64 id, .int .i64 born, .int .i64 a, .int .i64 b, .int .i64 ser, .slice x5 M0.length cap5] 24))) b6)
            have hlt2 := hy.lt
            have hlt3 := hq6.lt
            clear k0 k1 k2 k3 k4 k5 b6 hq
          
            have k0 := hq6.cell 0; have k1 := hq6.cell 1; have k2 := hq6.cell 2; have k3 := hq6.cell 3; have k4 := hq6.cell 4; have k5 := hq6.cell 5
            simp only [List.getElem?_cons_zero, List.getElem?_cons_succ] at k0 k1 k2 k3 k4 k5
            have z0 := hy.cell 0; have z1 := hy.cell 1; have z2 := hy.cell 2; have z3 := hy.cell 3; have z4 := hy.cell 4; have z5 := hy.cell 5
            simp only [List.getElem?_cons_zero, List.getElem?_cons_succ] at z0 z1 z2 z3 z4 z5
            have f0 := hy.froz 0; have f1 := hy.froz 1; have f2 := hy.froz 2; have f3 := hy.froz 3; have f4 := hy.froz 4; have f5 := hy.froz 5
            have HY6 := Lib.hid hy
            have hR := HR3.out
            clear HR3 hq6 hy HY5 HB5 HC6 HV5
            by_cases c6 : E6 = 0
            · rw [if_pos c6] at hR
              subst c6
              subst hR
              go_wp2
              have P := Pb.put HY6.out ⟨id, born, a, b, ser⟩ (.slice x5 M0.length cap5)
              have Q := below6 HB6.out (b := w.heap.size + 2) (by omega) (.int .i64 id) (.int .i64 born) (.int .i64 a) (.int .i64 b) (.int .i64 ser) ((.slice x5 M0.length cap5))
              have R := rd_put6 (b := w.heap.size + 2) HV6.out (HO5.out _ (by omega)) (.int .i64 id) (.int .i64 born) (.int .i64 a) (.int .i64 b) (.int .i64 ser) ((.slice x5 M0.length cap5))
              generalize (((((w6.setCell ⟨w.heap.size + 2, 0, none⟩ (.int .i64 id)).setCell ⟨w.heap.size + 2, 1, none⟩ (.int .i64 born)).setCell ⟨w.heap.size + 2, 2, none⟩ (.int .i64 a)).setCell ⟨w.heap.size + 2, 3, none⟩ (.int .i64 b)).setCell ⟨w.heap.size + 2, 4, none⟩ (.int .i64 ser)).setCell ⟨w.heap.size + 2, 5, none⟩ ((.slice x5 M0.length cap5)) = W2 at P Q R ⊢
              have y0 := P.cell 0; have y1 := P.cell 1; have y2 := P.cell 2; have y3 := P.cell 3; have y4 := P.cell 4; have y5 := P.cell 5
              simp only [List.getElem?_cons_zero, List.getElem?_cons_succ] at y0 y1 y2 y3 y4 y5
              refine bodyPost_ret (v := .tuple #[aP ⟨id, born, a, b, ser⟩ (.slice x5 M0.length cap5), .int .i64 (T - F), .int .i64 0]) (by simp [results, Try.results21, go_sem, y0, y1, y2, y3, y4, y5]) rfl ⟨_, rfl, R, fun b hb _ => HO5.out b (by omega), Q⟩
            · rw [if_neg c6] at hR
              subst hR
              have hz : (E6 == 0) = false := by simpa using c6
              go_wp2
              have P := Pb.put HY6.out ⟨0, 0, 0, 0, 0⟩ (.slice none 0 0)
              have Q := below6 HB6.out (b := w.heap.size + 2) (by omega) (.int .i64 0) (.int .i64 0) (.int .i64 0) (.int .i64 0) (.int .i64 0) ((.slice none 0 0))
              generalize (((((w6.setCell ⟨w.heap.size + 2, 0, none⟩ (.int .i64 0)).setCell ⟨w.heap.size + 2, 1, none⟩ (.int .i64 0)).setCell ⟨w.heap.size + 2, 2, none⟩ (.int .i64 0)).setCell ⟨w.heap.size + 2, 3, none⟩ (.int .i64 0)).setCell ⟨w.heap.size + 2, 4, none⟩ (.int .i64 0)).setCell ⟨w.heap.size + 2, 5, none⟩ ((.slice none 0 0)) = W2 at P Q ⊢
              have y0 := P.cell 0; have y1 := P.cell 1; have y2 := P.cell 2; have y3 := P.cell 3; have y4 := P.cell 4; have y5 := P.cell 5
              simp only [List.getElem?_cons_zero, List.getElem?_cons_succ] at y0 y1 y2 y3 y4 y5
              refine bodyPost_ret (v := .tuple #[aP ⟨0, 0, 0, 0, 0⟩ (.slice none 0 0), .int .i64 0, .int .i64 E6]) (by simp [results, Try.results21, go_sem, y0, y1, y2, y3, y4, y5]) rfl ⟨_, rfl, rd_nil _, fun _ _ _ => off_nil _, Q⟩
          · rw [if_neg c5] at hR
            subst hR
            have hz : (E5 == 0) = false := by simpa using c5
            have hy := HY5.out
            have hlt2 := hy.lt
            have z0 := hy.cell 0; have z1 := hy.cell 1; have z2 := hy.cell 2; have z3 := hy.cell 3; have z4 := hy.cell 4; have z5 := hy.cell 5
            simp only [List.getElem?_cons_zero, List.getElem?_cons_succ] at z0 z1 z2 z3 z4 z5
            have f0 := hy.froz 0; have f1 := hy.froz 1; have f2 := hy.froz 2; have f3 := hy.froz 3; have f4 := hy.froz 4; have f5 := hy.froz 5
            clear hy HC6
            go_wp2
            have P := Pb.put HY5.out ⟨0, 0, 0, 0, 0⟩ (.slice none 0 0)
            have Q := below6 HB5.out (b := w.heap.size + 2) (by omega) (.int .i64 0) (.int .i64 0) (.int .i64 0) (.int .i64 0) (.int .i64 0) ((.slice none 0 0))
            generalize (((((w5.setCell ⟨w.heap.size + 2, 0, none⟩ (.int .i64 0)).setCell ⟨w.heap.size + 2, 1, none⟩ (.int .i64 0)).setCell ⟨w.heap.size + 2, 2, none⟩ (.int .i64 0)).setCell ⟨w.heap.size + 2, 3, none⟩ (.int .i64 0)).setCell ⟨w.heap.size + 2, 4, none⟩ (.int .i64 0)).setCell ⟨w.heap.size + 2, 5, none⟩ ((.slice none 0 0)) = W2 at P Q ⊢
            have y0 := P.cell 0; have y1 := P.cell 1; have y2 := P.cell 2; have y3 := P.cell 3; have y4 := P.cell 4; have y5 := P.cell 5
            simp only [List.getElem?_cons_zero, List.getElem?_cons_succ] at y0 y1 y2 y3 y4 y5
            refine bodyPost_ret (v := .tuple #[aP ⟨0, 0, 0, 0, 0⟩ (.slice none 0 0), .int .i64 0, .int .i64 E5]) (by simp [results, Try.results21, go_sem, y0, y1, y2, y3, y4, y5]) rfl ⟨_, rfl, rd_nil _, fun _ _ _ => off_nil _, Q⟩
        · rw [if_neg c4] at hR
          subst hR
          have hz : (E4 == 0) = false := by simpa using c4
          have hy := HY4.out
          have hlt2 := hy.lt
          have z0 := hy.cell 0; have z1 := hy.cell 1; have z2 := hy.cell 2; have z3 := hy.cell 3; have z4 := hy.cell 4; have z5 := hy.cell 5
          simp only [List.getElem?_cons_zero, List.getElem?_cons_succ] at z0 z1 z2 z3 z4 z5
          have f0 := hy.froz 0; have f1 := hy.froz 1; have f2 := hy.froz 2; have f3 := hy.froz 3; have f4 := hy.froz 4; have f5 := hy.froz 5
          clear hy C5 C6
          go_wp2
          have P := Pb.put HY4.out ⟨0, 0, 0, 0, 0⟩ (.slice none 0 0)
          have Q := below6 HB4.out (b := w.heap.size + 2) (by omega) (.int .i64 0) (.int .i64 0) (.int .i64 0) (.int .i64 0) (.int .i64 0) ((.slice none 0 0))
          generalize (((((w4.setCell ⟨w.heap.size + 2, 0, none⟩ (.int .i64 0)).setCell ⟨w.heap.size + 2, 1, none⟩ (.int .i64 0)).setCell ⟨w.heap.size + 2, 2, none⟩ (.int .i64 0)).setCell ⟨w.heap.size + 2, 3, none⟩ (.int .i64 0)).setCell ⟨w.heap.size + 2, 4, none⟩ (.int .i64 0)).setCell ⟨w.heap.size + 2, 5, none⟩ ((.slice none 0 0)) = W2 at P Q ⊢
          have y0 := P.cell 0; have y1 := P.cell 1; have y2 := P.cell 2; have y3 := P.cell 3; have y4 := P.cell 4; have y5 := P.cell 5
          simp only [List.getElem?_cons_zero, List.getElem?_cons_succ] at y0 y1 y2 y3 y4 y5
          refine bodyPost_ret (v := .tuple #[aP ⟨0, 0, 0, 0, 0⟩ (.slice none 0 0), .int .i64 0, .int .i64 E4]) (by simp [results, Try.results21, go_sem, y0, y1, y2, y3, y4, y5]) rfl ⟨_, rfl, rd_nil _, fun _ _ _ => off_nil _, Q⟩
  · rw [if_neg c]
    have hz : (E == 0) = false := by simpa using c
    clear C6 C3 C4 C5 HB1
    go_enter Try.func21, Try.ntmps21
    go_wp2_with fail
    refine (C1.out _ (by first | exact HA.out | exact bn HA.out _)).mono ?_
    rintro en w2 ⟨rfl, b2⟩
    have HB := Lib.hid (bt HA.out b2)
    have hx := HX.out.next b2
    have hy := HY.out.next b2
    have ht := HT.out.next b2
    have hlt := hy.lt
    have hlt0 := hx.lt
    have hlt1 := ht.lt
    have z0 := hy.cell 0; have z1 := hy.cell 1; have z2 := hy.cell 2; have z3 := hy.cell 3; have z4 := hy.cell 4; have z5 := hy.cell 5
    simp only [List.getElem?_cons_zero, List.getElem?_cons_succ] at z0 z1 z2 z3 z4 z5
    have f0 := hy.froz 0; have f1 := hy.froz 1; have f2 := hy.froz 2; have f3 := hy.froz 3; have f4 := hy.froz 4; have f5 := hy.froz 5
    have HX2 := Lib.hid hx; have HY2 := Lib.hid hy; have HT2 := Lib.hid ht
    clear b2 hx hy ht HX HA HY HT C1
    go_wp2
    have P := Pb.put HY2.out ⟨0, 0, 0, 0, 0⟩ (.slice none 0 0)
    have Q := below6 HB.out (b := w.heap.size + 2) (by omega) (.int .i64 0) (.int .i64 0) (.int .i64 0) (.int .i64 0) (.int .i64 0) ((.slice none 0 0))
    generalize (((((w2.setCell ⟨w.heap.size + 2, 0, none⟩ (.int .i64 0)).setCell ⟨w.heap.size + 2, 1, none⟩ (.int .i64 0)).setCell ⟨w.heap.size + 2, 2, none⟩ (.int .i64 0)).setCell ⟨w.heap.size + 2, 3, none⟩ (.int .i64 0)).setCell ⟨w.heap.size + 2, 4, none⟩ (.int .i64 0)).setCell ⟨w.heap.size + 2, 5, none⟩ ((.slice none 0 0)) = W2 at P Q ⊢
    have y0 := P.cell 0; have y1 := P.cell 1; have y2 := P.cell 2; have y3 := P.cell 3; have y4 := P.cell 4; have y5 := P.cell 5
    simp only [List.getElem?_cons_zero, List.getElem?_cons_succ] at y0 y1 y2 y3 y4 y5
    refine bodyPost_ret (v := .tuple #[aP ⟨0, 0, 0, 0, 0⟩ (.slice none 0 0), .int .i64 0, .int .i64 E]) (by simp [results, Try.results21, go_sem, y0, y1, y2, y3, y4, y5]) rfl ⟨_, rfl, rd_nil _, fun _ _ _ => off_nil _, Q⟩
end Pa
end Go.Proofs.Ytcgncmlldjblmaa
/- Passes: plain law: a renewal's days. -/
set_option linter.unusedVariables false
namespace Go.Proofs.Ytcgncmlldjblmaa
open Go.RowKit
namespace Pa
open Dt Sn
theorem has_end {l : List Sp} (hc : Canon l) {n : Int} (h : has l n = true) : n < endD l := by
  unfold has at h
  obtain ⟨s, hs, hi⟩ := List.any_eq_true.1 h
  have h0 : 0 < l.length := List.length_pos_of_mem hs
  have h1 := canon_last hc (by omega) s hs
  unfold endD
  rw [dif_pos h0]
  simp at hi
  omega
theorem endD_le {l : List Sp} (hi : inS3 l) : 0 ≤ endD l ∨ 0 < l.length := by
  unfold endD
  by_cases h : 0 < l.length
  · exact .inr h
  · rw [dif_neg h]; exact .inl (Int.le_refl _)
theorem ren_days {l : List Sp} {F T : Int} (hl : chkS l = 0) (he : endD l ≤ F) (hFT : F < T) (h1 : 1 ≤ F) (hT : T ≤ 3652059) (hb : bothE 0 l [(F, T)] = 0) :
    days (bothR 0 l [(F, T)]) = days l + (T - F) := by
  obtain ⟨k1, k2, k3⟩ := both_ok hb
  have hs : chkS [(F, T)] = 0 := (both_parts hb).2.1
  have hd : days [(F, T)] = T - F := by simp [days]
  have e1 := days_cntN k1
  have e2 := days_cntN hl
  have e3 := days_cntN hs
  obtain ⟨K, hK⟩ : ∃ K : Nat, 2199023255552 = K := ⟨_, rfl⟩
  rw [hK] at e1 e2 e3
  clear hK
  have h4 := cntR_or (has l) (has [(F, T)]) (has (bothR 0 l [(F, T)])) (fun _ => false) (-1099511627776) (fun n => by rw [k3]; simp [opB]) (fun n => by
    cases ha : has l n with
    | false => rfl
    | true =>
      have := has_end ((chkS_ok l).1 hl).2.2 ha
      have hf : has [(F, T)] n = false := by
        unfold has
        simp
        omega
      rw [hf]; rfl) K
  rw [cntR_none _ _ (fun _ => rfl)] at h4
  rw [← hd, e1, e2, e3]
  omega
theorem ren_eq (p : Ps) (l : List Sp) (n u N : Int) : renF p l n u N = renG p l n u N := by
  unfold renF renG
  by_cases c1 : passE p l = 0
  · rw [if_pos c1, if_pos c1]
    cases hD : isD n with
    | false => rfl
    | true =>
      rw [if_neg (show ¬ (true = false) by decide), if_neg (show ¬ (true = false) by decide)]
      by_cases c2 : (nthF u N (frm l n) 1).2 = 0
      · rw [if_pos c2, if_pos c2]
        by_cases c3 : bothE 0 l (oneL (frm l n) u N) = 0
        · rw [if_pos c3, if_pos c3]
          unfold withF
          by_cases c4 : passE p (bothR 0 l (oneL (frm l n) u N)) = 0
          · rw [if_pos c4, if_pos c4]
            have hL : oneL (frm l n) u N = [(frm l n, (nthF u N (frm l n) 1).1)] := by unfold oneL; rw [if_pos c2]
            have hT : nthF u N (frm l n) 1 = ((nthF u N (frm l n) 1).1, 0) := by rw [← c2]
            obtain ⟨b1, b2, b3⟩ := nth_one hT
            obtain ⟨_, hk, _⟩ := passE_ok.1 c1
            rw [hL] at c3 ⊢
            have hd := ren_days hk (by unfold frm; omega) b2 b1 b3 c3
            obtain ⟨k1, _, _⟩ := both_ok c3
            unfold sizeN
            rw [if_pos k1, if_pos hk, hd]
            have : max (days l + ((nthF u N (frm l n) 1).1 - frm l n) - days l) (days l - (days l + ((nthF u N (frm l n) 1).1 - frm l n))) = (nthF u N (frm l n) 1).1 - frm l n := by omega
            rw [this]
          · rw [if_neg c4, if_neg c4]
        · rw [if_neg c3, if_neg c3]
      · rw [if_neg c2, if_neg c2]
  · rw [if_neg c1, if_neg c1]
end Pa
end Go.Proofs.Ytcgncmlldjblmaa
/- Passes: plain law: a pass that is cut, span by span. -/
set_option linter.unusedVariables false
namespace Go.Proofs.Ytcgncmlldjblmaa
open Go.RowKit
namespace Pa
open Dt Sn
/-- the days ahead of n, span by span -/
def cutL (n : Int) : List Sp → List Sp
  | [] => []
  | s :: l => if s.1 < min s.2 n then (s.1, min s.2 n) :: cutL n l else cutL n l
theorem has_cons (s : Sp) (l : List Sp) (k : Int) : has (s :: l) k = ((decide (s.1 ≤ k) && decide (k < s.2)) || has l k) := by
  unfold has; rw [List.any_cons]
theorem cutL_has (n k : Int) : ∀ l : List Sp, has (cutL n l) k = (has l k && decide (k < n))
  | [] => rfl
  | s :: l => by
    rw [cutL, has_cons s l]
    have ih := cutL_has n k l
    rw [Int.min_def]
    by_cases c : s.2 ≤ n
    · rw [if_pos c]
      by_cases c2 : s.1 < s.2
      · rw [if_pos c2, has_cons, ih]
        by_cases c3 : k < n
        · simp [c3]
        · have : ¬ k < s.2 := by omega
          simp [c3, this]
      · rw [if_neg c2, ih]
        have : (decide (s.1 ≤ k) && decide (k < s.2)) = false := by
          by_cases c3 : s.1 ≤ k
          · rw [decide_eq_false (show ¬ k < s.2 by omega), Bool.and_false]
          · rw [decide_eq_false c3, Bool.false_and]
        rw [this, Bool.false_or]
    · rw [if_neg c]
      by_cases c2 : s.1 < n
      · rw [if_pos c2, has_cons, ih]
        by_cases c3 : k < n
        · have : k < s.2 := by omega
          simp [c3, this]
        · simp [c3]
      · rw [if_neg c2, ih]
        by_cases c3 : k < n
        · have : ¬ s.1 ≤ k := by omega
          simp [this]
        · simp [c3]
theorem cutL_sub (n : Int) : ∀ (l : List Sp), ∀ t ∈ cutL n l, ∃ s ∈ l, t.1 = s.1 ∧ t.2 ≤ s.2 ∧ t.2 ≤ n ∧ t.1 < t.2
  | [], t, ht => by cases ht
  | s :: l, t, ht => by
    rw [cutL] at ht
    have hr : t ∈ cutL n l → ∃ s' ∈ s :: l, t.1 = s'.1 ∧ t.2 ≤ s'.2 ∧ t.2 ≤ n ∧ t.1 < t.2 := fun h => by
      obtain ⟨u, hu, h1⟩ := cutL_sub n l t h
      exact ⟨u, by simp [hu], h1⟩
    split at ht
    · rcases List.mem_cons.1 ht with rfl | ht
      · refine ⟨s, by simp, rfl, ?_, ?_, by assumption⟩
        · show min s.2 n ≤ s.2; omega
        · show min s.2 n ≤ n; omega
      · exact hr ht
    · exact hr ht
theorem canon_mk {s : Sp} {l : List Sp} (h1 : s.1 < s.2) (h2 : Canon l) (h3 : ∀ t ∈ l, s.2 < t.1) : Canon (s :: l) := by
  cases l with
  | nil => exact h1
  | cons t l => exact ⟨h1, h3 t (by simp), h2⟩
theorem cutL_canon (n : Int) : ∀ {l : List Sp}, Canon l → Canon (cutL n l)
  | [], _ => trivial
  | s :: l, h => by
    rw [cutL]
    have ih := cutL_canon n (canon_tail h)
    split
    · refine canon_mk (by assumption) ih fun t ht => ?_
      obtain ⟨u, hu, e1, _⟩ := cutL_sub n l t ht
      have := canon_from h u hu
      show min s.2 n < t.1
      omega
    · exact ih
theorem cutL_len (n : Int) : ∀ l : List Sp, (cutL n l).length ≤ l.length
  | [] => Nat.le_refl _
  | s :: l => by
    rw [cutL]
    have := cutL_len n l
    split <;> simp <;> omega
theorem cutL_days (n : Int) : ∀ l : List Sp, (∀ s ∈ l, s.1 ≤ s.2) → days (cutL n l) ≤ days l
  | [], _ => Int.le_refl _
  | s :: l, h => by
    rw [cutL, days]
    have ih := cutL_days n l (fun t ht => h t (by simp [ht]))
    have := h s (by simp)
    split
    · rw [days]; show (min s.2 n - s.1) + _ ≤ _; omega
    · omega
theorem cutL_inS3 (n : Int) {l : List Sp} (h : inS3 l) : inS3 (cutL n l) := fun t ht => by
  obtain ⟨s, hs, e1, e2, _⟩ := cutL_sub n l t ht
  have := h s hs
  exact ⟨by omega, by omega⟩
theorem cutL_chk (n : Int) {l : List Sp} (h : chkS l = 0) (h3 : inS3 l) : chkS (cutL n l) = 0 := by
  obtain ⟨h1, h2, hc⟩ := (chkS_ok l).1 h
  refine (chkS_ok _).2 ⟨by have := cutL_len n l; omega, fun t ht => ?_, cutL_canon n hc⟩
  obtain ⟨s, hs, e1, e2, e3, e4⟩ := cutL_sub n l t ht
  have := h3 s hs
  unfold isN
  omega
theorem cutL_again (n : Int) {l : List Sp} (h : Canon l) : cutL n (cutL n l) = cutL n l :=
  set_eq (cutL_canon n (cutL_canon n h)) (cutL_canon n h) fun k => by
    rw [cutL_has, cutL_has]
    cases has l k <;> simp
theorem has_le {l : List Sp} (h : inS3 l) {k : Int} (hk : has l k = true) : 1 ≤ k ∧ k < 3652060 := by
  unfold has at hk
  obtain ⟨s, hs, hi⟩ := List.any_eq_true.1 hk
  have := h s hs
  simp at hi
  omega
theorem cut_by {l : List Sp} (hl : chkS l = 0) (h3 : inS3 l) {n : Int} (h1 : 1 ≤ n) (h2 : n ≤ 3652059) : bothE 2 l [(n, 3652060)] = 0 ∧ bothR 2 l [(n, 3652060)] = cutL n l := by
  have hc := ((chkS_ok l).1 hl).2.2
  have e : byL 2 l [(n, 3652060)] = cutL n l := set_eq (byL_is _ _ _).1 (cutL_canon n hc) fun k => by
    rw [byL_has, cutL_has]
    have ho : ∀ x y, opB 2 x y = (x && !y) := fun x y => by cases x <;> cases y <;> rfl
    rw [ho]
    cases hk : has l k with
    | false => rfl
    | true =>
      have := has_le h3 hk
      rw [has_cons]
      show (true && !((decide (n ≤ k) && decide (k < 3652060)) || false)) = (true && decide (k < n))
      rw [decide_eq_true (show k < 3652060 by omega)]
      by_cases c : k < n
      · rw [decide_eq_true c, decide_eq_false (show ¬ n ≤ k by omega)]; rfl
      · rw [decide_eq_false c, decide_eq_true (show n ≤ k by omega)]; rfl
  have hs : chkS [(n, 3652060)] = 0 := (chkS_ok _).2 ⟨by simp, fun s hs => by
    rw [List.mem_singleton] at hs; subst hs; unfold isN; simp only; omega, by show n < 3652060; omega⟩
  have h64 := ((chkS_ok l).1 hl).1
  have hE : bothE 2 l [(n, 3652060)] = 0 := by
    rw [bothE_ok hl hs, e, if_neg (by have := cutL_len n l; omega)]
  exact ⟨hE, by unfold bothR; rw [if_pos hE, e]⟩
theorem isD_iff {n : Int} : isD n = true ↔ 1 ≤ n ∧ n ≤ 3652059 := by unfold isD; rw [decide_eq_true_iff]
/-- a cut: what it makes -/
def cutG (p : Ps) (l : List Sp) (n : Int) : R3 := if passE p l = 0 then (if isD n = false then ((p0, []), 0, 3) else ((p, cutL n l), days l - days (cutL n l), 0)) else ((p0, []), 0, passE p l)
theorem cut_eq (p : Ps) (l : List Sp) (n : Int) : cutF p l n = cutG p l n := by
  unfold cutF cutG
  by_cases c : passE p l = 0
  · rw [if_pos c, if_pos c]
    cases hD : isD n with
    | false => rfl
    | true =>
      rw [if_neg (show ¬ (true = false) by decide), if_neg (show ¬ (true = false) by decide)]
      obtain ⟨hp, hk, h3⟩ := passE_ok.1 c
      obtain ⟨h1, h2⟩ := isD_iff.1 hD
      obtain ⟨_, e⟩ := cut_by hk h3 h1 h2
      rw [e]
      have hk2 := cutL_chk n hk h3
      unfold withF
      rw [if_pos (passE_ok.2 ⟨hp, hk2, cutL_inS3 n h3⟩)]
      unfold sizeN
      rw [if_pos hk, if_pos hk2]
      have := cutL_days n l (fun s hs => by have := h3 s hs; exact chk_le hk s hs)
      have e : max (days (cutL n l) - days l) (days l - days (cutL n l)) = days l - days (cutL n l) := by omega
      rw [e]
  · rw [if_neg c, if_neg c]
/-- what a cut answers, if it does -/
theorem cut_yes {p : Ps} {l : List Sp} {n : Int} (h : (cutG p l n).2.2 = 0) : cutG p l n = ((p, cutL n l), days l - days (cutL n l), 0) ∧ passE p l = 0 ∧ isD n = true ∧ passE p (cutL n l) = 0 ∧ cutG p (cutL n l) n = ((p, cutL n l), 0, 0) := by
  unfold cutG at h
  by_cases c : passE p l = 0
  · rw [if_pos c] at h
    cases hD : isD n with
    | false => rw [if_pos hD] at h; exact absurd h (by decide)
    | true =>
      obtain ⟨hp, hk, h3⟩ := passE_ok.1 c
      have c2 : passE p (cutL n l) = 0 := passE_ok.2 ⟨hp, cutL_chk n hk h3, cutL_inS3 n h3⟩
      have hn : ¬ (isD n = false) := by rw [hD]; decide
      refine ⟨by unfold cutG; rw [if_pos c, if_neg hn], c, rfl, c2, ?_⟩
      unfold cutG
      rw [if_pos c2, if_neg hn, cutL_again n ((chkS_ok l).1 hk).2.2, Int.sub_self]
  · rw [if_neg c] at h; exact absurd h c
theorem cut_no {p : Ps} {l : List Sp} {n : Int} (h : (cutG p l n).2.2 ≠ 0) : cutG p l n = ((p0, []), 0, (cutG p l n).2.2) := by
  unfold cutG at h ⊢
  by_cases c : passE p l = 0
  · rw [if_pos c] at h ⊢
    cases hD : isD n with
    | false => rfl
    | true => rw [hD, if_neg (show ¬ (true = false) by decide)] at h; exact absurd rfl h
  · rw [if_neg c]
theorem hasB_ok {l : List Sp} (h : chkS l = 0) (k : Int) : hasB l k = has l k := by unfold hasB; rw [if_pos h]
theorem cut_has {p : Ps} {l : List Sp} {n : Int} (h1 : passE p l = 0) (h2 : passE p (cutL n l) = 0) (k z : Int) : rawB p (cutL n l) k z = (rawB p l k z && decide (k < n)) := by
  unfold rawB
  rw [hasB_ok (passE_ok.1 h1).2.1, hasB_ok (passE_ok.1 h2).2.1, cutL_has]
  cases has l k <;> cases decide (k < n) <;> simp
/-- what a renewal answers, if it does -/
theorem ren_yes {p : Ps} {l : List Sp} {n u N : Int} (h : (renG p l n u N).2.2 = 0) : ∃ T, renG p l n u N = ((p, bothR 0 l [(frm l n, T)]), T - frm l n, 0) ∧ passE p l = 0 ∧ isD n = true ∧ 1 ≤ frm l n ∧ frm l n < T ∧ T ≤ 3652059 ∧ endD l ≤ frm l n ∧ bothE 0 l [(frm l n, T)] = 0 ∧ passE p (bothR 0 l [(frm l n, T)]) = 0 := by
  unfold renG at h ⊢
  by_cases c1 : passE p l = 0
  · rw [if_pos c1] at h ⊢
    cases hD : isD n with
    | false => rw [hD, if_pos rfl] at h; exact absurd h (by decide)
    | true =>
      rw [hD, if_neg (show ¬ (true = false) by decide)] at h
      rw [if_neg (show ¬ (true = false) by decide)]
      by_cases c2 : (nthF u N (frm l n) 1).2 = 0
      · rw [if_pos c2] at h ⊢
        have hL : oneL (frm l n) u N = [(frm l n, (nthF u N (frm l n) 1).1)] := by unfold oneL; rw [if_pos c2]
        have hT : nthF u N (frm l n) 1 = ((nthF u N (frm l n) 1).1, 0) := by rw [← c2]
        obtain ⟨b1, b2, b3⟩ := nth_one hT
        rw [hL] at h ⊢
        by_cases c3 : bothE 0 l [(frm l n, (nthF u N (frm l n) 1).1)] = 0
        · rw [if_pos c3] at h ⊢
          by_cases c4 : passE p (bothR 0 l [(frm l n, (nthF u N (frm l n) 1).1)]) = 0
          · rw [if_pos c4]
            exact ⟨_, rfl, c1, rfl, b1, b2, b3, by unfold frm; omega, c3, c4⟩
          · rw [if_neg c4] at h; exact absurd h c4
        · rw [if_neg c3] at h; exact absurd h c3
      · rw [if_neg c2] at h; exact absurd h c2
  · rw [if_neg c1] at h; exact absurd h c1
theorem ren_no {p : Ps} {l : List Sp} {n u N : Int} (h : (renG p l n u N).2.2 ≠ 0) : renG p l n u N = ((p0, []), 0, (renG p l n u N).2.2) := by
  unfold renG at h ⊢
  by_cases c1 : passE p l = 0
  · rw [if_pos c1] at h ⊢
    cases hD : isD n with
    | false => rfl
    | true =>
      rw [hD, if_neg (show ¬ (true = false) by decide)] at h
      rw [if_neg (show ¬ (true = false) by decide)]
      by_cases c2 : (nthF u N (frm l n) 1).2 = 0
      · rw [if_pos c2] at h ⊢
        by_cases c3 : bothE 0 l (oneL (frm l n) u N) = 0
        · rw [if_pos c3] at h ⊢
          by_cases c4 : passE p (bothR 0 l (oneL (frm l n) u N)) = 0
          · rw [if_pos c4] at h; exact absurd rfl h
          · rw [if_neg c4]
        · rw [if_neg c3]
      · rw [if_neg c2]
  · rw [if_neg c1]
theorem both_has {l : List Sp} {F T : Int} (h : bothE 0 l [(F, T)] = 0) (k : Int) : has (bothR 0 l [(F, T)]) k = (has l k || (decide (F ≤ k) && decide (k < T))) := by
  rw [(both_ok h).2.2, has_cons]
  have ho : ∀ x y, opB 0 x y = (x || y) := fun x y => by cases x <;> cases y <;> rfl
  rw [ho]
  show (has l k || ((decide (F ≤ k) && decide (k < T)) || false)) = _
  rw [Bool.or_false]
theorem ren_has {p : Ps} {l : List Sp} {F T : Int} (h1 : passE p l = 0) (h2 : passE p (bothR 0 l [(F, T)]) = 0) (h : bothE 0 l [(F, T)] = 0) (k z : Int) :
    rawB p (bothR 0 l [(F, T)]) k z = (rawB p l k z || ((decide (p.a ≤ z) && decide (z ≤ p.b)) && (decide (F ≤ k) && decide (k < T)))) := by
  unfold rawB
  rw [hasB_ok (passE_ok.1 h1).2.1, hasB_ok (passE_ok.1 h2).2.1, both_has h]
  cases has l k <;> cases (decide (F ≤ k) && decide (k < T)) <;> cases (decide (p.a ≤ z) && decide (z ≤ p.b)) <;> rfl
/-- a renewal that is cut at its begin -/
theorem ren_cut {p : Ps} {l : List Sp} {n T : Int} (h1 : passE p l = 0) (hD : isD n = true) (b1 : 1 ≤ frm l n) (b2 : frm l n < T) (b3 : T ≤ 3652059) (he : endD l ≤ frm l n) (h : bothE 0 l [(frm l n, T)] = 0) (h2 : passE p (bothR 0 l [(frm l n, T)]) = 0) :
    cutG p (bothR 0 l [(frm l n, T)]) (frm l n) = ((p, l), T - frm l n, 0) := by
  obtain ⟨hp, hk, h3⟩ := passE_ok.1 h1
  have hd := ren_days hk he b2 b1 b3 h
  have hc := ((chkS_ok l).1 hk).2.2
  generalize frm l n = F at *
  have e : cutL F (bothR 0 l [(F, T)]) = l := set_eq (cutL_canon F (both_ok h).2.1) hc fun k => by
    rw [cutL_has, both_has h]
    cases hh : has l k with
    | true => have := has_end hc hh; rw [decide_eq_true (show k < F by omega)]; rfl
    | false =>
      by_cases c : k < F
      · rw [decide_eq_false (show ¬ F ≤ k by omega)]; rfl
      · rw [decide_eq_false c, Bool.and_false]
  unfold cutG
  rw [if_pos h2, if_neg (by rw [isD_iff.2 ⟨b1, by omega⟩]; decide), e, hd]
  have : days l + (T - F) - days l = T - F := by omega
  rw [this]
theorem days_bd3 {p : Ps} {l : List Sp} (h : passE p l = 0) : 0 ≤ days l ∧ days l ≤ 140737488355328 := days_ge (passE_ok.1 h).2.1
end Pa
end Go.Proofs.Ytcgncmlldjblmaa
