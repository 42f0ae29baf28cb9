/- Passes: one term from a day on; a new pass; where a pass ends. (gen_pass3.py) -/
import Derived.Test.YtdacnefklcmckaaPassTold
import Derived.Test.YtdacnefklcmckaaTermWalks2
set_option linter.unusedSimpArgs false
set_option linter.unusedVariables false
namespace Go.Proofs.Ytdacnefklcmckaa
open Go.RowKit
namespace Pa
open Dt Sn
def oneL (s u N : Int) : List Sp := if (nthF u N s 1).2 = 0 then [(s, (nthF u N s 1).1)] else []
abbrev OneQ (l : List Sp) (er : Int) (w : World) (e : Ending) (w' : World) : Prop := ∃ v, e = .returned (.tuple #[v, .int .i64 er]) ∧ RdE elS w' v l ∧ (∀ b, b < w.heap.size → Off v b) ∧ Below w.heap.size w w'
set_option maxRecDepth 100000 in
set_option maxHeartbeats 4000000 in
theorem one_any (s u N : Int) (w : World) : Calls Try.prog 24 #[.int .i64 s, aT u N] w (OneQ (oneL s u N) (nthF u N s 1).2 w) := by
  have hn := fun w => nth_any s u N 1 w
  unfold Dt.PairQ at hn
  unfold oneL
  obtain ⟨r, hr⟩ : ∃ r, nthF u N s 1 = r := ⟨_, rfl⟩
  rw [hr] at hn ⊢
  clear hr
  obtain ⟨T, E⟩ := r
  try simp only at hn ⊢
  unfold aT at hn ⊢
  have CK := Lib.hid hn
  clear hn
  have HA := Lib.hid ((br w).alloc (Nat.le_refl _) (.cells #[.int .i64 u, .int .i64 N] 26))
  by_cases c : E = 0
  · subst c
    rw [if_pos rfl]
    go_enter Try.func24, Try.ntmps24
    go_wp2_with fail
    refine (CK.out _).mono ?_
    rintro en w2 ⟨rfl, b2⟩
    have HB := Lib.hid (bt HA.out b2)
    clear b2
    go_wp2
    go_ret2
    exact ⟨_, rfl, rd_lit elS [(s, T)] _ _ _ _ rfl (by simp [maxLen]), fun b hb a n c hk hn => by have := HB.out.size; cases hk; simp only; omega, HB.out.alloc HB.out.size _⟩
  · rw [if_neg c]
    have hz : (E == 0) = false := by simpa using c
    go_enter Try.func24, Try.ntmps24
    go_wp2_with fail
    refine (CK.out _).mono ?_
    rintro en w2 ⟨rfl, b2⟩
    have HB := Lib.hid (bt HA.out b2)
    clear b2
    go_wp2
    go_ret2
    exact ⟨_, rfl, rd_nil _, fun b _ => off_nil b, HB.out⟩
def newE (id born a b s u N : Int) : Int := if (nthF u N s 1).2 = 0 then passE ⟨id, born, a, b, 1⟩ (oneL s u N) else (nthF u N s 1).2
set_option maxRecDepth 100000 in
set_option maxHeartbeats 4000000 in
theorem new_any (id born a b s u N : Int) (w : World) : Calls Try.prog 8 #[.int .i64 id, .int .i64 born, .int .i64 a, .int .i64 b, .int .i64 s, aT u N] w
    (PassQ (.slice none 0 0) (if newE id born a b s u N = 0 then ⟨id, born, a, b, 1⟩ else p0) (if newE id born a b s u N = 0 then oneL s u N else []) (newE id born a b s u N) w) := by
  have C1 := Lib.hid (fun w => one_any s u N w)
  have C2 := Lib.hid (fun d w h => told_any ⟨id, born, a, b, 1⟩ d (oneL s u N) w h)
  unfold newE
  unfold aT at C1 ⊢
  obtain ⟨E, hE⟩ : ∃ E, (nthF u N s 1).2 = E := ⟨_, rfl⟩
  rw [hE] at C1 ⊢
  clear hE
  generalize oneL s u N = L at *
  have HA := Lib.hid (((br w).alloc (Nat.le_refl _) (.cells #[.int .i64 u, .int .i64 N] 26)).alloc (by simp) (.cells #[.int .i64 0, .int .i64 0, .int .i64 0, .int .i64 0, .int .i64 0, .slice none 0 0] 24))
  have hy : Pb ((w.alloc (.cells #[.int .i64 u, .int .i64 N] 26)).alloc (.cells #[.int .i64 0, .int .i64 0, .int .i64 0, .int .i64 0, .int .i64 0, .slice none 0 0] 24)) (w.alloc (.cells #[.int .i64 u, .int .i64 N] 26)).heap.size ⟨0, 0, 0, 0, 0⟩ (.slice none 0 0) := Box.new _ _ _
  rw [asz] at hy
  have HY := Lib.hid hy
  clear hy
  by_cases c : E = 0
  · subst c
    rw [if_pos rfl]
    obtain ⟨E2, hE2⟩ : ∃ E2, passE ⟨id, born, a, b, 1⟩ L = E2 := ⟨_, rfl⟩
    rw [hE2] at C2 ⊢
    clear hE2
    obtain ⟨Q, hQ⟩ : ∃ Q, (if E2 = 0 then (⟨id, born, a, b, 1⟩ : Ps) else p0) = Q := ⟨_, rfl⟩
    obtain ⟨M, hM⟩ : ∃ M, (if E2 = 0 then L else []) = M := ⟨_, rfl⟩
    rw [hQ, hM] at C2 ⊢
    clear hQ hM
    obtain ⟨i1, i2, i3, i4, i5⟩ := Q
    go_enter Try.func8, Try.ntmps8
    go_wp2_with fail
    refine (C1.out _).mono ?_
    rintro en w2 ⟨v, rfl, hv, ho, b2⟩
    have HO := Lib.hid ho
    clear ho
    have HB := Lib.hid (bt HA.out b2)
    have HY2 := Lib.hid (HY.out.next b2)
    have HV := Lib.hid hv
    obtain ⟨x, cap, rfl, _, _, _⟩ := hv
    clear b2 HA HY
    go_wp2_with fail
    refine (C2.out _ _ HV.out).mono ?_
    rintro en w3 ⟨v3, rfl, hv3, ho3, b3⟩
    have HO3 := Lib.hid (fun b (hb : b < (w.heap.size + 1) + 1) => ho3 b (by have := HB.out.size; have := HY2.out.lt; omega) (HO.out b (by simp; omega)))
    clear ho3 HO
    have HB3 := Lib.hid (bt HB.out b3)
    have hy := HY2.out.next b3
    have hlt := hy.lt
    have HV3 := Lib.hid hv3
    obtain ⟨x3, cap3, rfl, _, _, _⟩ := hv3
    have z0 := hy.cell 0; have z1 := hy.cell 1; have z2 := hy.cell 2; have z3 := hy.cell 3; have z4 := hy.cell 4; have z5 := hy.cell 5
    simp only [List.getElem?_cons_zero, List.getElem?_cons_succ] at z0 z1 z2 z3 z4 z5
    have f0 := hy.froz 0; have f1 := hy.froz 1; have f2 := hy.froz 2; have f3 := hy.froz 3; have f4 := hy.froz 4; have f5 := hy.froz 5
    have HY3 := Lib.hid hy
    clear b3 hy HY2
    go_wp2
    have P := Pb.put HY3.out ⟨i1, i2, i3, i4, i5⟩ (.slice x3 M.length cap3)
    have Q := below6 HB3.out (b := w.heap.size + 1) (by omega) (.int .i64 i1) (.int .i64 i2) (.int .i64 i3) (.int .i64 i4) (.int .i64 i5) ((.slice x3 M.length cap3))
    have R := rd_put6 (b := w.heap.size + 1) HV3.out (HO3.out _ (by omega)) (.int .i64 i1) (.int .i64 i2) (.int .i64 i3) (.int .i64 i4) (.int .i64 i5) ((.slice x3 M.length cap3))
    generalize (((((w3.setCell ⟨w.heap.size + 1, 0, none⟩ (.int .i64 i1)).setCell ⟨w.heap.size + 1, 1, none⟩ (.int .i64 i2)).setCell ⟨w.heap.size + 1, 2, none⟩ (.int .i64 i3)).setCell ⟨w.heap.size + 1, 3, none⟩ (.int .i64 i4)).setCell ⟨w.heap.size + 1, 4, none⟩ (.int .i64 i5)).setCell ⟨w.heap.size + 1, 5, none⟩ ((.slice x3 M.length cap3)) = W2 at P Q R ⊢
    have y0 := P.cell 0; have y1 := P.cell 1; have y2 := P.cell 2; have y3 := P.cell 3; have y4 := P.cell 4; have y5 := P.cell 5
    simp only [List.getElem?_cons_zero, List.getElem?_cons_succ] at y0 y1 y2 y3 y4 y5
    refine bodyPost_ret (v := .tuple #[aP ⟨i1, i2, i3, i4, i5⟩ (.slice x3 M.length cap3), .int .i64 E2]) (by simp [results, Try.results8, go_sem, y0, y1, y2, y3, y4, y5]) rfl ⟨_, rfl, R, fun b hb _ => HO3.out b (by omega), Q⟩
  · rw [if_neg c, if_neg c, if_neg c]
    have hz : (E == 0) = false := by simpa using c
    go_enter Try.func8, Try.ntmps8
    go_wp2_with fail
    refine (C1.out _).mono ?_
    rintro en w2 ⟨v, rfl, hv, ho, b2⟩
    have HO := Lib.hid ho
    clear ho
    have HB := Lib.hid (bt HA.out b2)
    have hy := HY.out.next b2
    have hlt := hy.lt
    obtain ⟨x, cap, rfl, _, _, _⟩ := hv
    have z0 := hy.cell 0; have z1 := hy.cell 1; have z2 := hy.cell 2; have z3 := hy.cell 3; have z4 := hy.cell 4; have z5 := hy.cell 5
    simp only [List.getElem?_cons_zero, List.getElem?_cons_succ] at z0 z1 z2 z3 z4 z5
    have f0 := hy.froz 0; have f1 := hy.froz 1; have f2 := hy.froz 2; have f3 := hy.froz 3; have f4 := hy.froz 4; have f5 := hy.froz 5
    have HY2 := Lib.hid hy
    clear b2 HA HY hy
    go_wp2
    have P := Pb.put HY2.out ⟨0, 0, 0, 0, 0⟩ (.slice none 0 0)
    have Q := below6 HB.out (b := w.heap.size + 1) (by omega) (.int .i64 0) (.int .i64 0) (.int .i64 0) (.int .i64 0) (.int .i64 0) ((.slice none 0 0))
    generalize (((((w2.setCell ⟨w.heap.size + 1, 0, none⟩ (.int .i64 0)).setCell ⟨w.heap.size + 1, 1, none⟩ (.int .i64 0)).setCell ⟨w.heap.size + 1, 2, none⟩ (.int .i64 0)).setCell ⟨w.heap.size + 1, 3, none⟩ (.int .i64 0)).setCell ⟨w.heap.size + 1, 4, none⟩ (.int .i64 0)).setCell ⟨w.heap.size + 1, 5, none⟩ ((.slice none 0 0)) = W2 at P Q ⊢
    have y0 := P.cell 0; have y1 := P.cell 1; have y2 := P.cell 2; have y3 := P.cell 3; have y4 := P.cell 4; have y5 := P.cell 5
    simp only [List.getElem?_cons_zero, List.getElem?_cons_succ] at y0 y1 y2 y3 y4 y5
    refine bodyPost_ret (v := .tuple #[aP ⟨0, 0, 0, 0, 0⟩ (.slice none 0 0), .int .i64 E]) (by simp [results, Try.results8, go_sem, y0, y1, y2, y3, y4, y5]) rfl ⟨_, rfl, rd_nil _, fun _ _ _ => off_nil _, Q⟩
def endD (l : List Sp) : Int := if h : 0 < l.length then (l[l.length - 1]'(by omega)).2 else 0
set_option maxRecDepth 100000 in
set_option maxHeartbeats 4000000 in
theorem end_any (p : Ps) (d : Value) (l : List Sp) (w : World) (h : RdE elS w d l) : Calls Try.prog 41 #[aP p d] w fun e w' => e = .returned (.int .i64 (endD l)) ∧ Below w.heap.size w w' := by
  have hle := h.len_le
  obtain ⟨id, born, a, b, ser⟩ := p
  obtain ⟨x, cap, rfl, h1, h2, h3⟩ := h
  by_cases c0 : 0 < l.length
  · obtain ⟨bl, off, rfl, hbl, hc⟩ := h3 c0
    obtain ⟨_, d1⟩ := eS_at hc (l.length - 1) (by omega)
    have hE : endD l = (l[l.length - 1]'(by omega)).2 := by unfold endD; rw [dif_pos c0]
    rw [hE]
    obtain ⟨Q, hQ⟩ : ∃ Q, (l[l.length - 1]'(by omega)).2 = Q := ⟨_, rfl⟩
    rw [hQ] at d1 ⊢
    obtain ⟨n, hn⟩ : ∃ n, l.length - 1 = n := ⟨_, rfl⟩
    rw [hn] at d1
    have hn2 : (l.length : Int) - 1 = (n : Int) := by omega
    have hz : ((l.length : Int) == 0) = false := by rw [beq_eq_false_iff_ne]; omega
    have i1 : (n : Int) < (l.length : Int) := by omega
    have i0 : (0 : Int) ≤ (n : Int) := by omega
    have dd := (((br w).alloc (Nat.le_refl _) (.cells #[.int .i64 id, .int .i64 born, .int .i64 a, .int .i64 b, .int .i64 ser, .slice (some ⟨bl, off, none⟩) l.length cap] 24)).cell (p := ⟨bl, off + n * 2 + 1, none⟩) hbl).trans d1
    clear hc hQ hn hE h3
    go_enter Try.func41, Try.ntmps41
    go_wp2
    go_ret
    exact ⟨rfl, by first | exact (br w).alloc (Nat.le_refl _) _ | exact bn ((br w).alloc (Nat.le_refl _) _) _⟩
  · have hl : l = [] := List.eq_nil_of_length_eq_zero (by omega)
    subst hl
    clear h3
    go_enter Try.func41, Try.ntmps41
    go_wp2
    go_ret
    exact ⟨rfl, by first | exact (br w).alloc (Nat.le_refl _) _ | exact bn ((br w).alloc (Nat.le_refl _) _) _⟩
end Pa
end Go.Proofs.Ytdacnefklcmckaa
