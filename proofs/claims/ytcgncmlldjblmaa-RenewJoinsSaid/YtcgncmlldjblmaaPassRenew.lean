/- Passes: those that answer a pass. (gen_pass2.py) -/
import Derived.Test.YtcgncmlldjblmaaPassCheck2
import Derived.Test.YtcgncmlldjblmaaTermWalks2
import Derived.Test.YtcgncmlldjblmaaSpansHas
import Derived.Test.YtcgncmlldjblmaaSpansPlain3
import Derived.Deep.Cut
import Derived.Deep.RegionHeld3
set_option linter.unusedSimpArgs false
set_option linter.unusedVariables false
namespace Go.Proofs.Ytcgncmlldjblmaa
open Go.RowKit
namespace Pa
open Dt Sn
/-- a slice that does not lie in this block -/
def Off (v : Value) (b : Nat) : Prop := ∀ a n c, v = .slice (some a) n c → 0 < n → a.block ≠ b
theorem off_nil (b : Nat) : Off (.slice none 0 0) b := fun a n c h => by cases h
abbrev PassQ (d : Value) (p : Ps) (l : List Sp) (er : Int) (w : World) (e : Ending) (w' : World) : Prop := ∃ v, e = .returned (.tuple #[aP p v, .int .i64 er]) ∧ RdE elS w' v l ∧ (∀ b, b < w.heap.size → Off d b → Off v b) ∧ Below w.heap.size w w'
abbrev PassNQ (d : Value) (p : Ps) (l : List Sp) (n er : Int) (w : World) (e : Ending) (w' : World) : Prop := ∃ v, e = .returned (.tuple #[aP p v, .int .i64 n, .int .i64 er]) ∧ RdE elS w' v l ∧ (∀ b, b < w.heap.size → Off d b → Off v b) ∧ Below w.heap.size w w'
theorem off_own {w : World} {B : Nat} {v : Value} {l : List Sp} (h : ROwn elS w B v l) {b : Nat} (hb : b < B) : Off v b := fun a n c hk _ he => by subst hk; have := (h.lt a.block rfl).1; omega
theorem off_rd {w : World} {v : Value} {l : List Sp} (h : RdE elS w v l) {b : Nat} (hb : w.heap.size ≤ b) : Off v b := fun a n c hk hn he => by
  obtain ⟨a', cap, rfl, h1, h2, h3⟩ := h
  cases hk
  obtain ⟨g, off, e, hlt, _⟩ := h3 hn
  cases e
  simp only at he
  omega
theorem rd_put {w : World} {v : Value} {l : List Sp} {b : Nat} (h : RdE elS w v l) (ho : Off v b) (j : Nat) (u : Value) : RdE elS (w.setCell ⟨b, j, none⟩ u) v l := by
  obtain ⟨a, cap, rfl, h1, h2, h3⟩ := h
  refine ⟨a, cap, rfl, h1, h2, fun hn => ?_⟩
  obtain ⟨g, off, rfl, hlt, hc⟩ := h3 hn
  have hne : g ≠ b := ho _ _ _ rfl hn
  refine ⟨g, off, rfl, by simpa using hlt, fun i hi j' u' hu => ?_⟩
  rw [← hc i hi j' u' hu]
  have := Below.heap_setCell w ⟨b, j, none⟩ u g hne
  simp only [World.cell?, this]
theorem rd_put6 {w : World} {v : Value} {l : List Sp} {b : Nat} (h : RdE elS w v l) (ho : Off v b) (v0 v1 v2 v3 v4 v5 : Value) :
    RdE elS ((((((w.setCell ⟨b, 0, none⟩ v0).setCell ⟨b, 1, none⟩ v1).setCell ⟨b, 2, none⟩ v2).setCell ⟨b, 3, none⟩ v3).setCell ⟨b, 4, none⟩ v4).setCell ⟨b, 5, none⟩ v5) v l :=
  rd_put (rd_put (rd_put (rd_put (rd_put (rd_put h ho _ _) ho _ _) ho _ _) ho _ _) ho _ _) ho _ _
@[reducible] def p0 : Ps := ⟨0, 0, 0, 0, 0⟩
theorem rd_nil (w : World) : RdE elS w (.slice none 0 0) [] := ⟨none, 0, rfl, Nat.le_refl _, Nat.zero_le _, fun h => by simp at h⟩
/-- a struct's box of a pass -/
abbrev Pb (w : World) (b : Nat) (p : Ps) (d : Value) : Prop := Box w b 24 [.int .i64 p.id, .int .i64 p.born, .int .i64 p.a, .int .i64 p.b, .int .i64 p.ser, d]
theorem Pb.put {w : World} {b : Nat} {c0 c1 c2 c3 c4 c5 : Value} (h : Box w b 24 [c0, c1, c2, c3, c4, c5]) (q : Ps) (v : Value) :
    Pb ((((((w.setCell ⟨b, 0, none⟩ (.int .i64 q.id)).setCell ⟨b, 1, none⟩ (.int .i64 q.born)).setCell ⟨b, 2, none⟩ (.int .i64 q.a)).setCell ⟨b, 3, none⟩ (.int .i64 q.b)).setCell ⟨b, 4, none⟩ (.int .i64 q.ser)).setCell ⟨b, 5, none⟩ v) b q v :=
  (((((h.set 0 _).set 1 _).set 2 _).set 3 _).set 4 _).set 5 _
theorem below6 {B : Nat} {w w' : World} {b : Nat} (h : Below B w w') (hb : B ≤ b) (v0 v1 v2 v3 v4 v5 : Value) :
    Below B w ((((((w'.setCell ⟨b, 0, none⟩ v0).setCell ⟨b, 1, none⟩ v1).setCell ⟨b, 2, none⟩ v2).setCell ⟨b, 3, none⟩ v3).setCell ⟨b, 4, none⟩ v4).setCell ⟨b, 5, none⟩ v5) :=
  (((((h.setCell hb v0).setCell hb v1).setCell hb v2).setCell hb v3).setCell hb v4).setCell hb v5

theorem Bx.others {w : World} {b b' : Nat} {t : TypeId} {cs : List Value} (h : Box w b t cs) (hne : b ≠ b') (v0 v1 v2 v3 v4 v5 : Value) :
    Box ((((((w.setCell ⟨b', 0, none⟩ v0).setCell ⟨b', 1, none⟩ v1).setCell ⟨b', 2, none⟩ v2).setCell ⟨b', 3, none⟩ v3).setCell ⟨b', 4, none⟩ v4).setCell ⟨b', 5, none⟩ v5) b t cs :=
  (((((h.other b' 0 v0 hne).other b' 1 v1 hne).other b' 2 v2 hne).other b' 3 v3 hne).other b' 4 v4 hne).other b' 5 v5 hne

set_option maxRecDepth 100000 in
set_option maxHeartbeats 4000000 in
theorem told_any (p : Ps) (d : Value) (l : List Sp) (w : World) (h : RdE elS w d l) : Calls Try.prog 25 #[aP p d] w (PassQ d (if passE p l = 0 then p else p0) (if passE p l = 0 then l else []) (passE p l) w) := by
  have hq := check_any p d l
  obtain ⟨id, born, a, b, ser⟩ := p
  have HV := Lib.hid h
  obtain ⟨x, cap, rfl, h1, h2, h3⟩ := h
  clear h3
  have HA := Lib.hid (((br w).alloc (Nat.le_refl _) (.cells #[.int .i64 id, .int .i64 born, .int .i64 a, .int .i64 b, .int .i64 ser, .slice x l.length cap] 24)).alloc (by simp) (.cells #[.int .i64 0, .int .i64 0, .int .i64 0, .int .i64 0, .int .i64 0, .slice none 0 0] 24))
  have hx : Pb (w.alloc (.cells #[.int .i64 id, .int .i64 born, .int .i64 a, .int .i64 b, .int .i64 ser, .slice x l.length cap] 24)) w.heap.size ⟨id, born, a, b, ser⟩ (.slice x l.length cap) := Box.new w _ _
  have HX := Lib.hid (Box.alloc hx (.cells #[.int .i64 0, .int .i64 0, .int .i64 0, .int .i64 0, .int .i64 0, .slice none 0 0] 24))
  have hy : Pb ((w.alloc (.cells #[.int .i64 id, .int .i64 born, .int .i64 a, .int .i64 b, .int .i64 ser, .slice x l.length cap] 24)).alloc (.cells #[.int .i64 0, .int .i64 0, .int .i64 0, .int .i64 0, .int .i64 0, .slice none 0 0] 24)) (w.alloc (.cells #[.int .i64 id, .int .i64 born, .int .i64 a, .int .i64 b, .int .i64 ser, .slice x l.length cap] 24)).heap.size ⟨0, 0, 0, 0, 0⟩ (.slice none 0 0) := Box.new _ _ _
  rw [asz] at hy
  have HY := Lib.hid hy
  clear hy hx
  have CK := Lib.hid (fun w' (hb : Below w.heap.size w w') => hq w' (HV.out.below hb))
  clear hq
  obtain ⟨E, hE⟩ : ∃ E, passE ⟨id, born, a, b, ser⟩ l = E := ⟨_, rfl⟩
  rw [hE] at CK ⊢
  clear hE
  by_cases c : E = 0
  · subst c
    rw [if_pos rfl, if_pos rfl]
    go_enter Try.func25, Try.ntmps25
    go_wp2_with fail
    refine (CK.out _ (by first | exact HA.out | exact bn HA.out _)).mono ?_
    rintro en w2 ⟨rfl, b2⟩
    have HB := Lib.hid (bt HA.out b2)
    have hx := HX.out.next b2
    have hy := HY.out.next b2
    have hlt := hy.lt
    have k0 := hx.cell 0; have k1 := hx.cell 1; have k2 := hx.cell 2; have k3 := hx.cell 3; have k4 := hx.cell 4; have k5 := hx.cell 5
    simp only [List.getElem?_cons_zero, List.getElem?_cons_succ] at k0 k1 k2 k3 k4 k5
    have z0 := hy.cell 0; have z1 := hy.cell 1; have z2 := hy.cell 2; have z3 := hy.cell 3; have z4 := hy.cell 4; have z5 := hy.cell 5
    simp only [List.getElem?_cons_zero, List.getElem?_cons_succ] at z0 z1 z2 z3 z4 z5
    have f0 := hy.froz 0; have f1 := hy.froz 1; have f2 := hy.froz 2; have f3 := hy.froz 3; have f4 := hy.froz 4; have f5 := hy.froz 5
    clear b2 hx
    have HY2 := Lib.hid hy
    clear hy CK HA HX HY
    go_wp2
    have P := Pb.put HY2.out ⟨id, born, a, b, ser⟩ (.slice x l.length cap)
    have Q := below6 HB.out (b := w.heap.size + 1) (by omega) (.int .i64 id) (.int .i64 born) (.int .i64 a) (.int .i64 b) (.int .i64 ser) ((.slice x l.length cap))
    generalize (((((w2.setCell ⟨w.heap.size + 1, 0, none⟩ (.int .i64 id)).setCell ⟨w.heap.size + 1, 1, none⟩ (.int .i64 born)).setCell ⟨w.heap.size + 1, 2, none⟩ (.int .i64 a)).setCell ⟨w.heap.size + 1, 3, none⟩ (.int .i64 b)).setCell ⟨w.heap.size + 1, 4, none⟩ (.int .i64 ser)).setCell ⟨w.heap.size + 1, 5, none⟩ ((.slice x l.length cap)) = W2 at P Q ⊢
    have y0 := P.cell 0; have y1 := P.cell 1; have y2 := P.cell 2; have y3 := P.cell 3; have y4 := P.cell 4; have y5 := P.cell 5
    simp only [List.getElem?_cons_zero, List.getElem?_cons_succ] at y0 y1 y2 y3 y4 y5
    refine bodyPost_ret (v := .tuple #[aP ⟨id, born, a, b, ser⟩ (.slice x l.length cap), .int .i64 0]) (by simp [results, Try.results25, go_sem, y0, y1, y2, y3, y4, y5]) rfl ⟨_, rfl, HV.out.below Q, fun _ _ h => h, Q⟩
  · rw [if_neg c, if_neg c]
    have hz : (E == 0) = false := by simpa using c
    go_enter Try.func25, Try.ntmps25
    go_wp2_with fail
    refine (CK.out _ (by first | exact HA.out | exact bn HA.out _)).mono ?_
    rintro en w2 ⟨rfl, b2⟩
    have HB := Lib.hid (bt HA.out b2)
    have hy := HY.out.next b2
    have hlt := hy.lt
    have z0 := hy.cell 0; have z1 := hy.cell 1; have z2 := hy.cell 2; have z3 := hy.cell 3; have z4 := hy.cell 4; have z5 := hy.cell 5
    simp only [List.getElem?_cons_zero, List.getElem?_cons_succ] at z0 z1 z2 z3 z4 z5
    have f0 := hy.froz 0; have f1 := hy.froz 1; have f2 := hy.froz 2; have f3 := hy.froz 3; have f4 := hy.froz 4; have f5 := hy.froz 5
    clear b2
    have HY2 := Lib.hid hy
    clear hy CK HA HX HY
    go_wp2
    have P := Pb.put HY2.out ⟨0, 0, 0, 0, 0⟩ (.slice none 0 0)
    have Q := below6 HB.out (b := w.heap.size + 1) (by omega) (.int .i64 0) (.int .i64 0) (.int .i64 0) (.int .i64 0) (.int .i64 0) ((.slice none 0 0))
    generalize (((((w2.setCell ⟨w.heap.size + 1, 0, none⟩ (.int .i64 0)).setCell ⟨w.heap.size + 1, 1, none⟩ (.int .i64 0)).setCell ⟨w.heap.size + 1, 2, none⟩ (.int .i64 0)).setCell ⟨w.heap.size + 1, 3, none⟩ (.int .i64 0)).setCell ⟨w.heap.size + 1, 4, none⟩ (.int .i64 0)).setCell ⟨w.heap.size + 1, 5, none⟩ ((.slice none 0 0)) = W2 at P Q ⊢
    have y0 := P.cell 0; have y1 := P.cell 1; have y2 := P.cell 2; have y3 := P.cell 3; have y4 := P.cell 4; have y5 := P.cell 5
    simp only [List.getElem?_cons_zero, List.getElem?_cons_succ] at y0 y1 y2 y3 y4 y5
    refine bodyPost_ret (v := .tuple #[aP ⟨0, 0, 0, 0, 0⟩ (.slice none 0 0), .int .i64 E]) (by simp [results, Try.results25, go_sem, y0, y1, y2, y3, y4, y5]) rfl ⟨_, rfl, rd_nil _, fun _ _ _ => off_nil _, Q⟩
end Pa
end Go.Proofs.Ytcgncmlldjblmaa
/- Passes: one term from a day on; a new pass; where a pass ends. (gen_pass3.py) -/
set_option linter.unusedVariables false
namespace Go.Proofs.Ytcgncmlldjblmaa
open Go.RowKit
namespace Pa
open Dt Sn
def oneL (s u N : Int) : List Sp := if (nthF u N s 1).2 = 0 then [(s, (nthF u N s 1).1)] else []
abbrev OneQ (l : List Sp) (er : Int) (w : World) (e : Ending) (w' : World) : Prop := ∃ v, e = .returned (.tuple #[v, .int .i64 er]) ∧ RdE elS w' v l ∧ (∀ b, b < w.heap.size → Off v b) ∧ Below w.heap.size w w'
set_option maxRecDepth 100000 in
set_option maxHeartbeats 4000000 in
theorem one_any (s u N : Int) (w : World) : Calls Try.prog 24 #[.int .i64 s, aT u N] w (OneQ (oneL s u N) (nthF u N s 1).2 w) := by
  have hn := fun w => nth_any s u N 1 w
  unfold Dt.PairQ at hn
  unfold oneL
  obtain ⟨r, hr⟩ : ∃ r, nthF u N s 1 = r := ⟨_, rfl⟩
  rw [hr] at hn ⊢
  clear hr
  obtain ⟨T, E⟩ := r
  try simp only at hn ⊢
  unfold aT at hn ⊢
  have CK := Lib.hid hn
  clear hn
  have HA := Lib.hid ((br w).alloc (Nat.le_refl _) (.cells #[.int .i64 u, .int .i64 N] 26))
  by_cases c : E = 0
  · subst c
    rw [if_pos rfl]
    go_enter Try.func24, Try.ntmps24
    go_wp2_with fail
    refine (CK.out _).mono ?_
    rintro en w2 ⟨rfl, b2⟩
    have HB := Lib.hid (bt HA.out b2)
    clear b2
    go_wp2
    go_ret2
    exact ⟨_, rfl, rd_lit elS [(s, T)] _ _ _ _ rfl (by simp [maxLen]), fun b hb a n c hk hn => by have := HB.out.size; cases hk; simp only; omega, HB.out.alloc HB.out.size _⟩
  · rw [if_neg c]
    have hz : (E == 0) = false := by simpa using c
    go_enter Try.func24, Try.ntmps24
    go_wp2_with fail
    refine (CK.out _).mono ?_
    rintro en w2 ⟨rfl, b2⟩
    have HB := Lib.hid (bt HA.out b2)
    clear b2
    go_wp2
    go_ret2
    exact ⟨_, rfl, rd_nil _, fun b _ => off_nil b, HB.out⟩
def newE (id born a b s u N : Int) : Int := if (nthF u N s 1).2 = 0 then passE ⟨id, born, a, b, 1⟩ (oneL s u N) else (nthF u N s 1).2
set_option maxRecDepth 100000 in
set_option maxHeartbeats 4000000 in
theorem new_any (id born a b s u N : Int) (w : World) : Calls Try.prog 8 #[.int .i64 id, .int .i64 born, .int .i64 a, .int .i64 b, .int .i64 s, aT u N] w
    (PassQ (.slice none 0 0) (if newE id born a b s u N = 0 then ⟨id, born, a, b, 1⟩ else p0) (if newE id born a b s u N = 0 then oneL s u N else []) (newE id born a b s u N) w) := by
  have C1 := Lib.hid (fun w => one_any s u N w)
  have C2 := Lib.hid (fun d w h => told_any ⟨id, born, a, b, 1⟩ d (oneL s u N) w h)
  unfold newE
  unfold aT at C1 ⊢
  obtain ⟨E, hE⟩ : ∃ E, (nthF u N s 1).2 = E := ⟨_, rfl⟩
  rw [hE] at C1 ⊢
  clear hE
  generalize oneL s u N = L at *
  have HA := Lib.hid (((br w).alloc (Nat.le_refl _) (.cells #[.int .i64 u, .int .i64 N] 26)).alloc (by simp) (.cells #[.int .i64 0, .int .i64 0, .int .i64 0, .int .i64 0, .int .i64 0, .slice none 0 0] 24))
  have hy : Pb ((w.alloc (.cells #[.int .i64 u, .int .i64 N] 26)).alloc (.cells #[.int .i64 0, .int .i64 0, .int .i64 0, .int .i64 0, .int .i64 0, .slice none 0 0] 24)) (w.alloc (.cells #[.int .i64 u, .int .i64 N] 26)).heap.size ⟨0, 0, 0, 0, 0⟩ (.slice none 0 0) := Box.new _ _ _
  rw [asz] at hy
  have HY := Lib.hid hy
  clear hy
  by_cases c : E = 0
  · subst c
    rw [if_pos rfl]
    obtain ⟨E2, hE2⟩ : ∃ E2, passE ⟨id, born, a, b, 1⟩ L = E2 := ⟨_, rfl⟩
    rw [hE2] at C2 ⊢
    clear hE2
    obtain ⟨Q, hQ⟩ : ∃ Q, (if E2 = 0 then (⟨id, born, a, b, 1⟩ : Ps) else p0) = Q := ⟨_, rfl⟩
    obtain ⟨M, hM⟩ : ∃ M, (if E2 = 0 then L else []) = M := ⟨_, rfl⟩
    rw [hQ, hM] at C2 ⊢
    clear hQ hM
    obtain ⟨i1, i2, i3, i4, i5⟩ := Q
    go_enter Try.func8, Try.ntmps8
    go_wp2_with fail
    refine (C1.out _).mono ?_
    rintro en w2 ⟨v, rfl, hv, ho, b2⟩
    have HO := Lib.hid ho
    clear ho
    have HB := Lib.hid (bt HA.out b2)
    have HY2 := Lib.hid (HY.out.next b2)
    have HV := Lib.hid hv
    obtain ⟨x, cap, rfl, _, _, _⟩ := hv
    clear b2 HA HY
    go_wp2_with fail
    refine (C2.out _ _ HV.out).mono ?_
    rintro en w3 ⟨v3, rfl, hv3, ho3, b3⟩
    have HO3 := Lib.hid (fun b (hb : b < (w.heap.size + 1) + 1) => ho3 b (by have := HB.out.size; have := HY2.out.lt; omega) (HO.out b (by simp; omega)))
    clear ho3 HO
    have HB3 := Lib.hid (bt HB.out b3)
    have hy := HY2.out.next b3
    have hlt := hy.lt
    have HV3 := Lib.hid hv3
    obtain ⟨x3, cap3, rfl, _, _, _⟩ := hv3
    have z0 := hy.cell 0; have z1 := hy.cell 1; have z2 := hy.cell 2; have z3 := hy.cell 3; have z4 := hy.cell 4; have z5 := hy.cell 5
    simp only [List.getElem?_cons_zero, List.getElem?_cons_succ] at z0 z1 z2 z3 z4 z5
    have f0 := hy.froz 0; have f1 := hy.froz 1; have f2 := hy.froz 2; have f3 := hy.froz 3; have f4 := hy.froz 4; have f5 := hy.froz 5
    have HY3 := Lib.hid hy
    clear b3 hy HY2
    go_wp2
    have P := Pb.put HY3.out ⟨i1, i2, i3, i4, i5⟩ (.slice x3 M.length cap3)
    have Q := below6 HB3.out (b := w.heap.size + 1) (by omega) (.int .i64 i1) (.int .i64 i2) (.int .i64 i3) (.int .i64 i4) (.int .i64 i5) ((.slice x3 M.length cap3))
    have R := rd_put6 (b := w.heap.size + 1) HV3.out (HO3.out _ (by omega)) (.int .i64 i1) (.int .i64 i2) (.int .i64 i3) (.int .i64 i4) (.int .i64 i5) ((.slice x3 M.length cap3))
    generalize (((((w3.setCell ⟨w.heap.size + 1, 0, none⟩ (.int .i64 i1)).setCell ⟨w.heap.size + 1, 1, none⟩ (.int .i64 i2)).setCell ⟨w.heap.size + 1, 2, none⟩ (.int .i64 i3)).setCell ⟨w.heap.size + 1, 3, none⟩ (.int .i64 i4)).setCell ⟨w.heap.size + 1, 4, none⟩ (.int .i64 i5)).setCell ⟨w.heap.size + 1, 5, none⟩ ((.slice x3 M.length cap3)) = W2 at P Q R ⊢
    have y0 := P.cell 0; have y1 := P.cell 1; have y2 := P.cell 2; have y3 := P.cell 3; have y4 := P.cell 4; have y5 := P.cell 5
    simp only [List.getElem?_cons_zero, List.getElem?_cons_succ] at y0 y1 y2 y3 y4 y5
    refine bodyPost_ret (v := .tuple #[aP ⟨i1, i2, i3, i4, i5⟩ (.slice x3 M.length cap3), .int .i64 E2]) (by simp [results, Try.results8, go_sem, y0, y1, y2, y3, y4, y5]) rfl ⟨_, rfl, R, fun b hb _ => HO3.out b (by omega), Q⟩
  · rw [if_neg c, if_neg c, if_neg c]
    have hz : (E == 0) = false := by simpa using c
    go_enter Try.func8, Try.ntmps8
    go_wp2_with fail
    refine (C1.out _).mono ?_
    rintro en w2 ⟨v, rfl, hv, ho, b2⟩
    have HO := Lib.hid ho
    clear ho
    have HB := Lib.hid (bt HA.out b2)
    have hy := HY.out.next b2
    have hlt := hy.lt
    obtain ⟨x, cap, rfl, _, _, _⟩ := hv
    have z0 := hy.cell 0; have z1 := hy.cell 1; have z2 := hy.cell 2; have z3 := hy.cell 3; have z4 := hy.cell 4; have z5 := hy.cell 5
    simp only [List.getElem?_cons_zero, List.getElem?_cons_succ] at z0 z1 z2 z3 z4 z5
    have f0 := hy.froz 0; have f1 := hy.froz 1; have f2 := hy.froz 2; have f3 := hy.froz 3; have f4 := hy.froz 4; have f5 := hy.froz 5
    have HY2 := Lib.hid hy
    clear b2 HA HY hy
    go_wp2
    have P := Pb.put HY2.out ⟨0, 0, 0, 0, 0⟩ (.slice none 0 0)
    have Q := below6 HB.out (b := w.heap.size + 1) (by omega) (.int .i64 0) (.int .i64 0) (.int .i64 0) (.int .i64 0) (.int .i64 0) ((.slice none 0 0))
    generalize (((((w2.setCell ⟨w.heap.size + 1, 0, none⟩ (.int .i64 0)).setCell ⟨w.heap.size + 1, 1, none⟩ (.int .i64 0)).setCell ⟨w.heap.size + 1, 2, none⟩ (.int .i64 0)).setCell ⟨w.heap.size + 1, 3, none⟩ (.int .i64 0)).setCell ⟨w.heap.size + 1, 4, none⟩ (.int .i64 0)).setCell ⟨w.heap.size + 1, 5, none⟩ ((.slice none 0 0)) = W2 at P Q ⊢
    have y0 := P.cell 0; have y1 := P.cell 1; have y2 := P.cell 2; have y3 := P.cell 3; have y4 := P.cell 4; have y5 := P.cell 5
    simp only [List.getElem?_cons_zero, List.getElem?_cons_succ] at y0 y1 y2 y3 y4 y5
    refine bodyPost_ret (v := .tuple #[aP ⟨0, 0, 0, 0, 0⟩ (.slice none 0 0), .int .i64 E]) (by simp [results, Try.results8, go_sem, y0, y1, y2, y3, y4, y5]) rfl ⟨_, rfl, rd_nil _, fun _ _ _ => off_nil _, Q⟩
def endD (l : List Sp) : Int := if h : 0 < l.length then (l[l.length - 1]'(by omega)).2 else 0
set_option maxRecDepth 100000 in
set_option maxHeartbeats 4000000 in
theorem end_any (p : Ps) (d : Value) (l : List Sp) (w : World) (h : RdE elS w d l) : Calls Try.prog 41 #[aP p d] w fun e w' => e = .returned (.int .i64 (endD l)) ∧ Below w.heap.size w w' := by
  have hle := h.len_le
  obtain ⟨id, born, a, b, ser⟩ := p
  obtain ⟨x, cap, rfl, h1, h2, h3⟩ := h
  by_cases c0 : 0 < l.length
  · obtain ⟨bl, off, rfl, hbl, hc⟩ := h3 c0
    obtain ⟨_, d1⟩ := eS_at hc (l.length - 1) (by omega)
    have hE : endD l = (l[l.length - 1]'(by omega)).2 := by unfold endD; rw [dif_pos c0]
    rw [hE]
    obtain ⟨Q, hQ⟩ : ∃ Q, (l[l.length - 1]'(by omega)).2 = Q := ⟨_, rfl⟩
    rw [hQ] at d1 ⊢
    obtain ⟨n, hn⟩ : ∃ n, l.length - 1 = n := ⟨_, rfl⟩
    rw [hn] at d1
    have hn2 : (l.length : Int) - 1 = (n : Int) := by omega
    have hz : ((l.length : Int) == 0) = false := by rw [beq_eq_false_iff_ne]; omega
    have i1 : (n : Int) < (l.length : Int) := by omega
    have i0 : (0 : Int) ≤ (n : Int) := by omega
    have dd := (((br w).alloc (Nat.le_refl _) (.cells #[.int .i64 id, .int .i64 born, .int .i64 a, .int .i64 b, .int .i64 ser, .slice (some ⟨bl, off, none⟩) l.length cap] 24)).cell (p := ⟨bl, off + n * 2 + 1, none⟩) hbl).trans d1
    clear hc hQ hn hE h3
    go_enter Try.func41, Try.ntmps41
    go_wp2
    go_ret
    exact ⟨rfl, by first | exact (br w).alloc (Nat.le_refl _) _ | exact bn ((br w).alloc (Nat.le_refl _) _) _⟩
  · have hl : l = [] := List.eq_nil_of_length_eq_zero (by omega)
    subst hl
    clear h3
    go_enter Try.func41, Try.ntmps41
    go_wp2
    go_ret
    exact ⟨rfl, by first | exact (br w).alloc (Nat.le_refl _) _ | exact bn ((br w).alloc (Nat.le_refl _) _) _⟩
end Pa
end Go.Proofs.Ytcgncmlldjblmaa
/- Passes: a pass with other days. (gen_pass3.py) -/
set_option linter.unusedVariables false
namespace Go.Proofs.Ytcgncmlldjblmaa
open Go.RowKit
namespace Pa
open Dt Sn
theorem sizeN_bd (l : List Sp) : 0 ≤ sizeN l ∧ sizeN l ≤ 140737488355328 := by
  unfold sizeN
  by_cases c : chkS l = 0
  · rw [if_pos c]; exact days_ge c
  · rw [if_neg c]; omega
abbrev R3 := (Ps × List Sp) × Int × Int
abbrev R3Q (d : Value) (r : R3) (w : World) := PassNQ d r.1.1 r.1.2 r.2.1 r.2.2 w
def withF (p : Ps) (l m : List Sp) : R3 := if passE p m = 0 then ((p, m), max (sizeN m - sizeN l) (sizeN l - sizeN m), 0) else ((p0, []), 0, passE p m)
set_option maxRecDepth 100000 in
set_option maxHeartbeats 4000000 in
theorem with_any (p : Ps) (d : Value) (l : List Sp) (f : Value) (m : List Sp) (w : World) (h : RdE elS w d l) (h' : RdE elS w f m) : Calls Try.prog 28 #[aP p d, f] w (R3Q f (withF p l m) w) := by
  have C1 := Lib.hid (fun w' (hb : Below w.heap.size w w') => size_any d l w' (h.below hb))
  have C2 := Lib.hid (fun w' (hb : Below w.heap.size w w') => told_any p f m w' (h'.below hb))
  have C3 := Lib.hid (fun w' (hb : Below w.heap.size w w') => size_any f m w' (h'.below hb))
  have hb1 := sizeN_bd l
  have hb2 := sizeN_bd m
  unfold withF
  generalize sizeN l = S1 at *
  generalize sizeN m = S2 at *
  generalize chkS l = K1 at *
  generalize chkS m = K2 at *
  obtain ⟨E, hE⟩ : ∃ E, passE p m = E := ⟨_, rfl⟩
  rw [hE] at C2 ⊢
  clear hE
  obtain ⟨id, born, a, b, ser⟩ := p
  obtain ⟨x, cap, rfl, _, _, _⟩ := h
  have HV' := Lib.hid h'
  obtain ⟨x', cap', rfl, _, _, _⟩ := h'
  have HA := Lib.hid (((br w).alloc (Nat.le_refl _) (.cells #[.int .i64 id, .int .i64 born, .int .i64 a, .int .i64 b, .int .i64 ser, .slice x l.length cap] 24)).alloc (by simp) (.cells #[.int .i64 0, .int .i64 0, .int .i64 0, .int .i64 0, .int .i64 0, .slice none 0 0] 24))
  have hx : Pb (w.alloc (.cells #[.int .i64 id, .int .i64 born, .int .i64 a, .int .i64 b, .int .i64 ser, .slice x l.length cap] 24)) w.heap.size ⟨id, born, a, b, ser⟩ (.slice x l.length cap) := Box.new w _ _
  have HX := Lib.hid (Box.alloc hx (.cells #[.int .i64 0, .int .i64 0, .int .i64 0, .int .i64 0, .int .i64 0, .slice none 0 0] 24))
  have hy : Pb ((w.alloc (.cells #[.int .i64 id, .int .i64 born, .int .i64 a, .int .i64 b, .int .i64 ser, .slice x l.length cap] 24)).alloc (.cells #[.int .i64 0, .int .i64 0, .int .i64 0, .int .i64 0, .int .i64 0, .slice none 0 0] 24)) (w.alloc (.cells #[.int .i64 id, .int .i64 born, .int .i64 a, .int .i64 b, .int .i64 ser, .slice x l.length cap] 24)).heap.size ⟨0, 0, 0, 0, 0⟩ (.slice none 0 0) := Box.new _ _ _
  rw [asz] at hy
  have HY := Lib.hid hy
  clear hy hx
  by_cases c : E = 0
  · subst c
    rw [if_pos rfl] at C2
    rw [if_pos rfl] at C2
    rw [if_pos rfl]
    go_enter Try.func28, Try.ntmps28
    go_wp2_with fail
    refine (C1.out _ (by first | exact HA.out | exact bn HA.out _)).mono ?_
    rintro en w2 ⟨rfl, b2⟩
    have HB := Lib.hid (bt HA.out b2)
    have hx := HX.out.next b2
    have HY2 := Lib.hid (HY.out.next b2)
    have hlt := hx.lt
    have k0 := hx.cell 0; have k1 := hx.cell 1; have k2 := hx.cell 2; have k3 := hx.cell 3; have k4 := hx.cell 4; have k5 := hx.cell 5
    simp only [List.getElem?_cons_zero, List.getElem?_cons_succ] at k0 k1 k2 k3 k4 k5
    have f0 := hx.froz 0; have f1 := hx.froz 1; have f2 := hx.froz 2; have f3 := hx.froz 3; have f4 := hx.froz 4; have f5 := hx.froz 5
    have HX2 := Lib.hid (hx.set 5 (.slice x' m.length cap'))
    have HB2 := Lib.hid (HB.out.setCell (p := ⟨w.heap.size, 5, none⟩) (Nat.le_refl _) (.slice x' m.length cap'))
    have HY3 := Lib.hid (HY2.out.other w.heap.size 5 (.slice x' m.length cap') (by omega))
    clear b2 hx HX HY HA HB HY2 C1
    go_wp2_with fail
    refine (C2.out _ HB2.out).mono ?_
    rintro en w3 ⟨v3, rfl, hv3, ho3, b3⟩
    have HO3 := Lib.hid (fun b (hb : b < w.heap.size + 2) => ho3 b (by have := HY3.out.lt; omega))
    have HB3 := Lib.hid (bt HB2.out b3)
    have hx := HX2.out.next b3
    have HY4 := Lib.hid (HY3.out.next b3)
    have hlt := hx.lt
    have HV3 := Lib.hid hv3
    obtain ⟨x3, cap3, rfl, _, _, _⟩ := hv3
    simp only [List.set_cons_zero, List.set_cons_succ] at hx
    clear k0 k1 k2 k3 k4 k5 f0 f1 f2 f3 f4 f5
    have k0 := hx.cell 0; have k1 := hx.cell 1; have k2 := hx.cell 2; have k3 := hx.cell 3; have k4 := hx.cell 4; have k5 := hx.cell 5
    simp only [List.getElem?_cons_zero, List.getElem?_cons_succ] at k0 k1 k2 k3 k4 k5
    have f0 := hx.froz 0; have f1 := hx.froz 1; have f2 := hx.froz 2; have f3 := hx.froz 3; have f4 := hx.froz 4; have f5 := hx.froz 5
    have hp := Pb.put hx ⟨id, born, a, b, ser⟩ (.slice x3 m.length cap3)
    have hq := below6 HB3.out (b := w.heap.size) (by omega) (.int .i64 id) (.int .i64 born) (.int .i64 a) (.int .i64 b) (.int .i64 ser) ((.slice x3 m.length cap3))
    have hr := rd_put6 (b := w.heap.size) HV3.out (HO3.out _ (by omega) (off_rd HV'.out (Nat.le_refl _))) (.int .i64 id) (.int .i64 born) (.int .i64 a) (.int .i64 b) (.int .i64 ser) ((.slice x3 m.length cap3))
    have ht := Bx.others (b' := w.heap.size) HY4.out (by omega) (.int .i64 id) (.int .i64 born) (.int .i64 a) (.int .i64 b) (.int .i64 ser) ((.slice x3 m.length cap3))
    have HP := Lib.hid hp; have HQ := Lib.hid hq; have HR := Lib.hid hr; have HT := Lib.hid ht
    clear hp hq hr ht
    clear hx b3 HX2 HB2 HY3 C2 HB3 HY4 HV3
    go_wp2_with fail
    generalize (((((w3.setCell ⟨w.heap.size, 0, none⟩ (.int .i64 id)).setCell ⟨w.heap.size, 1, none⟩ (.int .i64 born)).setCell ⟨w.heap.size, 2, none⟩ (.int .i64 a)).setCell ⟨w.heap.size, 3, none⟩ (.int .i64 b)).setCell ⟨w.heap.size, 4, none⟩ (.int .i64 ser)).setCell ⟨w.heap.size, 5, none⟩ ((.slice x3 m.length cap3)) = W2 at HP HQ HR HT ⊢
    clear k0 k1 k2 k3 k4 k5 f0 f1 f2 f3 f4 f5
    refine (C3.out _ HQ.out).mono ?_
    rintro en w4 ⟨rfl, b4⟩
    have HB4 := Lib.hid (bt HQ.out b4)
    have hx := HP.out.next b4
    have hy := HT.out.next b4
    have HV4 := Lib.hid (HR.out.below b4)
    have hlt := hy.lt
    have k0 := hx.cell 0; have k1 := hx.cell 1; have k2 := hx.cell 2; have k3 := hx.cell 3; have k4 := hx.cell 4; have k5 := hx.cell 5
    simp only [List.getElem?_cons_zero, List.getElem?_cons_succ] at k0 k1 k2 k3 k4 k5
    have z0 := hy.cell 0; have z1 := hy.cell 1; have z2 := hy.cell 2; have z3 := hy.cell 3; have z4 := hy.cell 4; have z5 := hy.cell 5
    simp only [List.getElem?_cons_zero, List.getElem?_cons_succ] at z0 z1 z2 z3 z4 z5
    have f0 := hy.froz 0; have f1 := hy.froz 1; have f2 := hy.froz 2; have f3 := hy.froz 3; have f4 := hy.froz 4; have f5 := hy.froz 5
    have HY5 := Lib.hid hy
    clear b4 hx hy HP HQ HR HT C3
    go_wp2
    have P := Pb.put HY5.out ⟨id, born, a, b, ser⟩ (.slice x3 m.length cap3)
    have Q := below6 HB4.out (b := w.heap.size + 1) (by omega) (.int .i64 id) (.int .i64 born) (.int .i64 a) (.int .i64 b) (.int .i64 ser) ((.slice x3 m.length cap3))
    have R := rd_put6 (b := w.heap.size + 1) HV4.out (HO3.out _ (by omega) (off_rd HV'.out (by omega))) (.int .i64 id) (.int .i64 born) (.int .i64 a) (.int .i64 b) (.int .i64 ser) ((.slice x3 m.length cap3))
    generalize (((((w4.setCell ⟨w.heap.size + 1, 0, none⟩ (.int .i64 id)).setCell ⟨w.heap.size + 1, 1, none⟩ (.int .i64 born)).setCell ⟨w.heap.size + 1, 2, none⟩ (.int .i64 a)).setCell ⟨w.heap.size + 1, 3, none⟩ (.int .i64 b)).setCell ⟨w.heap.size + 1, 4, none⟩ (.int .i64 ser)).setCell ⟨w.heap.size + 1, 5, none⟩ ((.slice x3 m.length cap3)) = W2 at P Q R ⊢
    have y0 := P.cell 0; have y1 := P.cell 1; have y2 := P.cell 2; have y3 := P.cell 3; have y4 := P.cell 4; have y5 := P.cell 5
    simp only [List.getElem?_cons_zero, List.getElem?_cons_succ] at y0 y1 y2 y3 y4 y5
    refine bodyPost_ret (v := .tuple #[aP ⟨id, born, a, b, ser⟩ (.slice x3 m.length cap3), .int .i64 (max (S2 - S1) (S1 - S2)), .int .i64 0]) (by simp [results, Try.results28, go_sem, y0, y1, y2, y3, y4, y5]) rfl ⟨_, rfl, R, fun b hb ho => HO3.out b (by omega) ho, Q⟩
  · rw [if_neg c] at C2
    rw [if_neg c] at C2
    rw [show (p0 : Ps) = ⟨0, 0, 0, 0, 0⟩ from rfl] at C2
    rw [if_neg c]
    have hz : (E == 0) = false := by simpa using c
    go_enter Try.func28, Try.ntmps28
    go_wp2_with fail
    refine (C1.out _ (by first | exact HA.out | exact bn HA.out _)).mono ?_
    rintro en w2 ⟨rfl, b2⟩
    have HB := Lib.hid (bt HA.out b2)
    have hx := HX.out.next b2
    have HY2 := Lib.hid (HY.out.next b2)
    have hlt := hx.lt
    have k0 := hx.cell 0; have k1 := hx.cell 1; have k2 := hx.cell 2; have k3 := hx.cell 3; have k4 := hx.cell 4; have k5 := hx.cell 5
    simp only [List.getElem?_cons_zero, List.getElem?_cons_succ] at k0 k1 k2 k3 k4 k5
    have f0 := hx.froz 0; have f1 := hx.froz 1; have f2 := hx.froz 2; have f3 := hx.froz 3; have f4 := hx.froz 4; have f5 := hx.froz 5
    have HX2 := Lib.hid (hx.set 5 (.slice x' m.length cap'))
    have HB2 := Lib.hid (HB.out.setCell (p := ⟨w.heap.size, 5, none⟩) (Nat.le_refl _) (.slice x' m.length cap'))
    have HY3 := Lib.hid (HY2.out.other w.heap.size 5 (.slice x' m.length cap') (by omega))
    clear b2 hx HX HY HA HB HY2 C1
    go_wp2_with fail
    refine (C2.out _ HB2.out).mono ?_
    rintro en w3 ⟨v3, rfl, hv3, ho3, b3⟩
    have HB3 := Lib.hid (bt HB2.out b3)
    have hx := HX2.out.next b3
    have hy := HY3.out.next b3
    have hlt := hy.lt
    have hlt0 := hx.lt
    obtain ⟨x3, n3, cap3, rfl⟩ : ∃ x n c, v3 = .slice x n c := by obtain ⟨x3, cap3, h0, _⟩ := hv3; exact ⟨_, _, _, h0⟩
    clear hv3 ho3
    simp only [List.set_cons_zero, List.set_cons_succ] at hx
    clear k0 k1 k2 k3 k4 k5 f0 f1 f2 f3 f4 f5
    have k0 := hx.cell 0; have k1 := hx.cell 1; have k2 := hx.cell 2; have k3 := hx.cell 3; have k4 := hx.cell 4; have k5 := hx.cell 5
    simp only [List.getElem?_cons_zero, List.getElem?_cons_succ] at k0 k1 k2 k3 k4 k5
    have f0 := hx.froz 0; have f1 := hx.froz 1; have f2 := hx.froz 2; have f3 := hx.froz 3; have f4 := hx.froz 4; have f5 := hx.froz 5
    have hy4 := Bx.others (b' := w.heap.size) hy (by omega) (.int .i64 0) (.int .i64 0) (.int .i64 0) (.int .i64 0) (.int .i64 0) ((.slice x3 n3 cap3))
    have z0 := hy4.cell 0; have z1 := hy4.cell 1; have z2 := hy4.cell 2; have z3 := hy4.cell 3; have z4 := hy4.cell 4; have z5 := hy4.cell 5
    simp only [List.getElem?_cons_zero, List.getElem?_cons_succ] at z0 z1 z2 z3 z4 z5
    have g0 := hy4.froz 0; have g1 := hy4.froz 1; have g2 := hy4.froz 2; have g3 := hy4.froz 3; have g4 := hy4.froz 4; have g5 := hy4.froz 5
    have HB4 := Lib.hid (below6 HB3.out (b := w.heap.size) (by omega) (.int .i64 0) (.int .i64 0) (.int .i64 0) (.int .i64 0) (.int .i64 0) ((.slice x3 n3 cap3)))
    have HY4 := Lib.hid hy4
    clear hy4 z0 z1 z2 z3 z4 z5 g0 g1 g2 g3 g4 g5 hx hy b3 HX2 HB2 HY3 C2 HB3 C3
    go_upto_region 4 with (fail)
    generalize (((((w3.setCell ⟨w.heap.size, 0, none⟩ (.int .i64 0)).setCell ⟨w.heap.size, 1, none⟩ (.int .i64 0)).setCell ⟨w.heap.size, 2, none⟩ (.int .i64 0)).setCell ⟨w.heap.size, 3, none⟩ (.int .i64 0)).setCell ⟨w.heap.size, 4, none⟩ (.int .i64 0)).setCell ⟨w.heap.size, 5, none⟩ ((.slice x3 n3 cap3)) = W3 at HB4 HY4 ⊢
    clear k0 k1 k2 k3 k4 k5 f0 f1 f2 f3 f4 f5
    have hy := HY4.out
    have hlt := hy.lt
    have z0 := hy.cell 0; have z1 := hy.cell 1; have z2 := hy.cell 2; have z3 := hy.cell 3; have z4 := hy.cell 4; have z5 := hy.cell 5
    simp only [List.getElem?_cons_zero, List.getElem?_cons_succ] at z0 z1 z2 z3 z4 z5
    have g0 := hy.froz 0; have g1 := hy.froz 1; have g2 := hy.froz 2; have g3 := hy.froz 3; have g4 := hy.froz 4; have g5 := hy.froz 5
    clear hy
    go_wp2
    have P := Pb.put HY4.out ⟨0, 0, 0, 0, 0⟩ (.slice none 0 0)
    have Q := below6 HB4.out (b := w.heap.size + 1) (by omega) (.int .i64 0) (.int .i64 0) (.int .i64 0) (.int .i64 0) (.int .i64 0) ((.slice none 0 0))
    generalize (((((W3.setCell ⟨w.heap.size + 1, 0, none⟩ (.int .i64 0)).setCell ⟨w.heap.size + 1, 1, none⟩ (.int .i64 0)).setCell ⟨w.heap.size + 1, 2, none⟩ (.int .i64 0)).setCell ⟨w.heap.size + 1, 3, none⟩ (.int .i64 0)).setCell ⟨w.heap.size + 1, 4, none⟩ (.int .i64 0)).setCell ⟨w.heap.size + 1, 5, none⟩ ((.slice none 0 0)) = W2 at P Q ⊢
    have y0 := P.cell 0; have y1 := P.cell 1; have y2 := P.cell 2; have y3 := P.cell 3; have y4 := P.cell 4; have y5 := P.cell 5
    simp only [List.getElem?_cons_zero, List.getElem?_cons_succ] at y0 y1 y2 y3 y4 y5
    refine bodyPost_ret (v := .tuple #[aP ⟨0, 0, 0, 0, 0⟩ (.slice none 0 0), .int .i64 0, .int .i64 E]) (by simp [results, Try.results28, go_sem, y0, y1, y2, y3, y4, y5]) rfl ⟨_, rfl, rd_nil _, fun _ _ _ => off_nil _, Q⟩
end Pa
end Go.Proofs.Ytcgncmlldjblmaa
/- Passes: whose days are its own; has a pass a day. (gen_pass3.py) -/
set_option linter.unusedVariables false
namespace Go.Proofs.Ytcgncmlldjblmaa
open Go.RowKit
namespace Pa
open Dt Sn
def rawB (p : Ps) (l : List Sp) (n z : Int) : Bool := hasB l n && (decide (p.a ≤ z) && decide (z ≤ p.b))
set_option maxRecDepth 100000 in
set_option maxHeartbeats 4000000 in
theorem raw_any (p : Ps) (d : Value) (l : List Sp) (n z : Int) (w : World) (h : RdE elS w d l) : Calls Try.prog 30 #[aP p d, .int .i64 n, .int .i64 z] w (BoolQ (rawB p l n z) w) := by
  have C1 := Lib.hid (fun w' (hb : Below w.heap.size w w') => has_fn d l n w' (h.below hb))
  obtain ⟨id, born, a, b, ser⟩ := p
  obtain ⟨x, cap, rfl, _, _, _⟩ := h
  unfold rawB
  generalize chkS l = K at *
  obtain ⟨B, hB⟩ : ∃ B, hasB l n = B := ⟨_, rfl⟩
  rw [hB] at C1 ⊢
  clear hB
  have HA := Lib.hid ((br w).alloc (Nat.le_refl _) (.cells #[.int .i64 id, .int .i64 born, .int .i64 a, .int .i64 b, .int .i64 ser, .slice x l.length cap] 24))
  have hx : Pb (w.alloc (.cells #[.int .i64 id, .int .i64 born, .int .i64 a, .int .i64 b, .int .i64 ser, .slice x l.length cap] 24)) w.heap.size ⟨id, born, a, b, ser⟩ (.slice x l.length cap) := Box.new w _ _
  have HX := Lib.hid hx
  clear hx
  cases B with
  | false =>
    go_enter Try.func30, Try.ntmps30
    go_wp2_with fail
    refine (C1.out _ (by first | exact HA.out | exact bn HA.out _)).mono ?_
    rintro en w2 ⟨rfl, b2⟩
    have HB := Lib.hid (bt HA.out b2)
    have hx := HX.out.next b2
    have k0 := hx.cell 0; have k1 := hx.cell 1; have k2 := hx.cell 2; have k3 := hx.cell 3; have k4 := hx.cell 4; have k5 := hx.cell 5
    simp only [List.getElem?_cons_zero, List.getElem?_cons_succ] at k0 k1 k2 k3 k4 k5
    clear b2 hx HX HA C1
    go_wp2
    go_ret
    exact ⟨rfl, HB.out⟩
  | true =>
    by_cases c : a ≤ z
    · have hr : (true && (decide (a ≤ z) && decide (z ≤ b))) = decide (z ≤ b) := by rw [decide_eq_true c]; rfl
      rw [hr]
      clear hr
      go_enter Try.func30, Try.ntmps30
      go_wp2_with fail
      refine (C1.out _ (by first | exact HA.out | exact bn HA.out _)).mono ?_
      rintro en w2 ⟨rfl, b2⟩
      have HB := Lib.hid (bt HA.out b2)
      have hx := HX.out.next b2
      have k0 := hx.cell 0; have k1 := hx.cell 1; have k2 := hx.cell 2; have k3 := hx.cell 3; have k4 := hx.cell 4; have k5 := hx.cell 5
      simp only [List.getElem?_cons_zero, List.getElem?_cons_succ] at k0 k1 k2 k3 k4 k5
      clear b2 hx HX HA C1
      go_wp2
      go_ret
      exact ⟨rfl, HB.out⟩
    · have hr : (true && (decide (a ≤ z) && decide (z ≤ b))) = false := by rw [decide_eq_false c]; rfl
      rw [hr]
      clear hr
      go_enter Try.func30, Try.ntmps30
      go_wp2_with fail
      refine (C1.out _ (by first | exact HA.out | exact bn HA.out _)).mono ?_
      rintro en w2 ⟨rfl, b2⟩
      have HB := Lib.hid (bt HA.out b2)
      have hx := HX.out.next b2
      have k0 := hx.cell 0; have k1 := hx.cell 1; have k2 := hx.cell 2; have k3 := hx.cell 3; have k4 := hx.cell 4; have k5 := hx.cell 5
      simp only [List.getElem?_cons_zero, List.getElem?_cons_succ] at k0 k1 k2 k3 k4 k5
      clear b2 hx HX HA C1
      go_wp2
      go_ret
      exact ⟨rfl, HB.out⟩
set_option maxRecDepth 100000 in
set_option maxHeartbeats 4000000 in
theorem has_any (p : Ps) (d : Value) (l : List Sp) (n z : Int) (w : World) (h : RdE elS w d l) : Calls Try.prog 11 #[aP p d, .int .i64 n, .int .i64 z] w (fun e w' => e = .returned (.tuple #[.bool (decide (passE p l = 0) && rawB p l n z), .int .i64 (passE p l)]) ∧ Below w.heap.size w w') := by
  have C1 := Lib.hid (fun w' (hb : Below w.heap.size w w') => check_any p d l w' (h.below hb))
  have C2 := Lib.hid (fun w' (hb : Below w.heap.size w w') => raw_any p d l n z w' (h.below hb))
  obtain ⟨id, born, a, b, ser⟩ := p
  obtain ⟨x, cap, rfl, _, _, _⟩ := h
  obtain ⟨B, hB⟩ : ∃ B, rawB ⟨id, born, a, b, ser⟩ l n z = B := ⟨_, rfl⟩
  rw [hB] at C2 ⊢
  clear hB
  obtain ⟨E, hE⟩ : ∃ E, passE ⟨id, born, a, b, ser⟩ l = E := ⟨_, rfl⟩
  rw [hE] at C1 ⊢
  clear hE
  have HA := Lib.hid ((br w).alloc (Nat.le_refl _) (.cells #[.int .i64 id, .int .i64 born, .int .i64 a, .int .i64 b, .int .i64 ser, .slice x l.length cap] 24))
  have hx : Pb (w.alloc (.cells #[.int .i64 id, .int .i64 born, .int .i64 a, .int .i64 b, .int .i64 ser, .slice x l.length cap] 24)) w.heap.size ⟨id, born, a, b, ser⟩ (.slice x l.length cap) := Box.new w _ _
  have HX := Lib.hid hx
  clear hx
  by_cases c : E = 0
  · subst c
    rw [show (decide ((0 : Int) = 0) && B) = B by simp]
    go_enter Try.func11, Try.ntmps11
    go_wp2_with fail
    refine (C1.out _ (by first | exact HA.out | exact bn HA.out _)).mono ?_
    rintro en w2 ⟨rfl, b2⟩
    have HB := Lib.hid (bt HA.out b2)
    have hx := HX.out.next b2
    have k0 := hx.cell 0; have k1 := hx.cell 1; have k2 := hx.cell 2; have k3 := hx.cell 3; have k4 := hx.cell 4; have k5 := hx.cell 5
    simp only [List.getElem?_cons_zero, List.getElem?_cons_succ] at k0 k1 k2 k3 k4 k5
    clear b2 hx HX HA C1
    go_wp2_with fail
    refine (C2.out _ HB.out).mono ?_
    rintro en w3 ⟨rfl, b3⟩
    have HB3 := Lib.hid (bt HB.out b3)
    clear b3
    go_wp2
    go_ret2
    exact ⟨rfl, HB3.out⟩
  · rw [show (decide (E = 0) && B) = false by rw [decide_eq_false c]; rfl]
    have hz : (E == 0) = false := by simpa using c
    go_enter Try.func11, Try.ntmps11
    go_wp2_with fail
    refine (C1.out _ (by first | exact HA.out | exact bn HA.out _)).mono ?_
    rintro en w2 ⟨rfl, b2⟩
    have HB := Lib.hid (bt HA.out b2)
    clear b2
    go_wp2
    go_ret2
    exact ⟨rfl, HB.out⟩
set_option maxHeartbeats 1000000 in
theorem clone_any (v : Value) (xs : List Sp) (w : World) (h : RdE elS w v xs) (hl : xs.length ≤ 1000) : Calls Try.prog 48 #[v] w fun e w' => ∃ v', e = .returned v' ∧ ROwn elS w' w.heap.size v' xs ∧ Below w.heap.size w w' := by
  have H := Lib.hid h
  obtain ⟨a, cap, rfl, h1, h2, h3⟩ := h
  rcases a with _ | ad
  · have hz : xs = [] := by
      rcases xs with _ | ⟨x, xs⟩
      · rfl
      · obtain ⟨b, off, e, _⟩ := h3 (by simp); cases e
    subst hz
    have q : ∀ w, (binOp .eql 22 (.slice none 0 cap) (.slice none 0 0)).run Try.prog w = .ok (.bool true) w := fun w => Lib.run_eql_slice_nil w _ _ none 0 cap 0 0 Try.underlying22
    have hN := Lib.hid (ROwn.nil (E := elS) w w.heap.size)
    clear h3
    show Calls _ _ #[.slice none 0 cap] _ _
    go_enter Try.func48, Try.ntmps48
    go_wp2
    go_ret
    exact ⟨_, rfl, hN.out, br _⟩
  · clear h3
    have q : ∀ w, (binOp .eql 22 (.slice (some ad) xs.length cap) (.slice none 0 0)).run Try.prog w = .ok (.bool false) w := fun w => Lib.run_eql_slice_nil w _ _ (some ad) xs.length cap 0 0 Try.underlying22
    go_enter Try.func48, Try.ntmps48
    go_wp2_with (at_builtin; refine appE elS rfl (.tmp 5) (.tmp 6) rfl w.heap.size _ [] rfl (ROwn.lit0 w w.heap.size w.heap.size rfl (Nat.le_refl _)) _ xs rfl (H.out.below ((br w).alloc (Nat.le_refl _) _)) (by simp [maxLen]; omega) (by simp; omega) (by simp) ?_; intro v1 w5 hown1 hb5 hfar5; have HO1 := Lib.hid hown1; have HB5 := Lib.hid (((br w).alloc (Nat.le_refl _) _).trans hb5); clear hown1 hfar5 hb5)
    go_ret
    exact ⟨_, rfl, HO1.out, HB5.out⟩
set_option maxRecDepth 100000 in
set_option maxHeartbeats 4000000 in
theorem own_any (p : Ps) (d : Value) (l : List Sp) (w : World) (h : RdE elS w d l) (hl : l.length ≤ 1000) : Calls Try.prog 29 #[aP p d] w (fun e w' => ∃ v, e = .returned (aP p v) ∧ RdE elS w' v l ∧ (∀ b, b < w.heap.size → Off v b) ∧ Below w.heap.size w w') := by
  have C1 := Lib.hid (fun w' (hb : Below w.heap.size w w') => clone_any d l w' (h.below hb) hl)
  obtain ⟨id, born, a, b, ser⟩ := p
  obtain ⟨x, cap, rfl, _, _, _⟩ := h
  have HA := Lib.hid (((br w).alloc (Nat.le_refl _) (.cells #[.int .i64 id, .int .i64 born, .int .i64 a, .int .i64 b, .int .i64 ser, .slice x l.length cap] 24)).alloc (by simp) (.cells #[.int .i64 0, .int .i64 0, .int .i64 0, .int .i64 0, .int .i64 0, .slice none 0 0] 24))
  have hx : Pb (w.alloc (.cells #[.int .i64 id, .int .i64 born, .int .i64 a, .int .i64 b, .int .i64 ser, .slice x l.length cap] 24)) w.heap.size ⟨id, born, a, b, ser⟩ (.slice x l.length cap) := Box.new w _ _
  have HX := Lib.hid (Box.alloc hx (.cells #[.int .i64 0, .int .i64 0, .int .i64 0, .int .i64 0, .int .i64 0, .slice none 0 0] 24))
  have hy : Pb ((w.alloc (.cells #[.int .i64 id, .int .i64 born, .int .i64 a, .int .i64 b, .int .i64 ser, .slice x l.length cap] 24)).alloc (.cells #[.int .i64 0, .int .i64 0, .int .i64 0, .int .i64 0, .int .i64 0, .slice none 0 0] 24)) (w.alloc (.cells #[.int .i64 id, .int .i64 born, .int .i64 a, .int .i64 b, .int .i64 ser, .slice x l.length cap] 24)).heap.size ⟨0, 0, 0, 0, 0⟩ (.slice none 0 0) := Box.new _ _ _
  rw [asz] at hy
  have HY := Lib.hid hy
  clear hy hx
  go_enter Try.func29, Try.ntmps29
  go_wp2_with fail
  refine (C1.out _ (by first | exact HA.out | exact bn HA.out _)).mono ?_
  rintro en w2 ⟨v2, rfl, ho2, b2⟩
  have HB := Lib.hid (bt HA.out b2)
  have hx := HX.out.next b2
  have hy := HY.out.next b2
  have hlt := hy.lt
  have hlt0 := hx.lt
  have HO2 := Lib.hid (fun b (hb : b < w.heap.size + 2) => off_own ho2 (b := b) (by simp; omega))
  have HV2 := Lib.hid ho2.rd
  obtain ⟨x2, cap2, rfl, _, _, _⟩ := ho2.rd
  clear ho2
  have k0 := hx.cell 0; have k1 := hx.cell 1; have k2 := hx.cell 2; have k3 := hx.cell 3; have k4 := hx.cell 4; have k5 := hx.cell 5
  simp only [List.getElem?_cons_zero, List.getElem?_cons_succ] at k0 k1 k2 k3 k4 k5
  have f0 := hx.froz 0; have f1 := hx.froz 1; have f2 := hx.froz 2; have f3 := hx.froz 3; have f4 := hx.froz 4; have f5 := hx.froz 5
  have HX3 := Lib.hid (hx.set 5 (.slice x2 l.length cap2))
  have HY3 := Lib.hid (hy.other w.heap.size 5 (.slice x2 l.length cap2) (by omega))
  have HB3 := Lib.hid (HB.out.setCell (p := ⟨w.heap.size, 5, none⟩) (Nat.le_refl _) (.slice x2 l.length cap2))
  have HV3 := Lib.hid (rd_put HV2.out (HO2.out w.heap.size (by omega)) 5 (.slice x2 l.length cap2))
  clear b2 hx hy HX HY HA HB HV2 C1
  go_upto_region 2 with (fail)
  generalize w2.setCell ⟨w.heap.size, 5, none⟩ (.slice x2 l.length cap2) = W3 at HX3 HY3 HB3 HV3 ⊢
  clear k0 k1 k2 k3 k4 k5 f0 f1 f2 f3 f4 f5 hlt hlt0
  have hx := HX3.out
  have hy := HY3.out
  have hlt := hy.lt
  simp only [List.set_cons_zero, List.set_cons_succ] at hx
  have k0 := hx.cell 0; have k1 := hx.cell 1; have k2 := hx.cell 2; have k3 := hx.cell 3; have k4 := hx.cell 4; have k5 := hx.cell 5
  simp only [List.getElem?_cons_zero, List.getElem?_cons_succ] at k0 k1 k2 k3 k4 k5
  have z0 := hy.cell 0; have z1 := hy.cell 1; have z2 := hy.cell 2; have z3 := hy.cell 3; have z4 := hy.cell 4; have z5 := hy.cell 5
  simp only [List.getElem?_cons_zero, List.getElem?_cons_succ] at z0 z1 z2 z3 z4 z5
  have f0 := hy.froz 0; have f1 := hy.froz 1; have f2 := hy.froz 2; have f3 := hy.froz 3; have f4 := hy.froz 4; have f5 := hy.froz 5
  clear hx hy
  go_wp2
  have P := Pb.put HY3.out ⟨id, born, a, b, ser⟩ (.slice x2 l.length cap2)
  have Q := below6 HB3.out (b := w.heap.size + 1) (by omega) (.int .i64 id) (.int .i64 born) (.int .i64 a) (.int .i64 b) (.int .i64 ser) ((.slice x2 l.length cap2))
  have R := rd_put6 (b := w.heap.size + 1) HV3.out (HO2.out _ (by omega)) (.int .i64 id) (.int .i64 born) (.int .i64 a) (.int .i64 b) (.int .i64 ser) ((.slice x2 l.length cap2))
  generalize (((((W3.setCell ⟨w.heap.size + 1, 0, none⟩ (.int .i64 id)).setCell ⟨w.heap.size + 1, 1, none⟩ (.int .i64 born)).setCell ⟨w.heap.size + 1, 2, none⟩ (.int .i64 a)).setCell ⟨w.heap.size + 1, 3, none⟩ (.int .i64 b)).setCell ⟨w.heap.size + 1, 4, none⟩ (.int .i64 ser)).setCell ⟨w.heap.size + 1, 5, none⟩ ((.slice x2 l.length cap2)) = W2 at P Q R ⊢
  have y0 := P.cell 0; have y1 := P.cell 1; have y2 := P.cell 2; have y3 := P.cell 3; have y4 := P.cell 4; have y5 := P.cell 5
  simp only [List.getElem?_cons_zero, List.getElem?_cons_succ] at y0 y1 y2 y3 y4 y5
  refine bodyPost_ret (v := aP ⟨id, born, a, b, ser⟩ (.slice x2 l.length cap2)) (by simp [results, Try.results29, go_sem, y0, y1, y2, y3, y4, y5]) rfl ⟨_, rfl, R, fun b hb => HO2.out b (by omega), Q⟩
end Pa
end Go.Proofs.Ytcgncmlldjblmaa
/- Passes: a pass that is replaced, or cut. (gen_pass3.py) -/
set_option linter.unusedVariables false
namespace Go.Proofs.Ytcgncmlldjblmaa
open Go.RowKit
namespace Pa
open Dt Sn
def repE (p : Ps) (l : List Sp) : Int := if passE p l = 0 then (if p.ser = 999 then 2 else 0) else passE p l
abbrev repP (p : Ps) : Ps := ⟨p.id, p.born, p.a, p.b, p.ser + 1⟩
set_option maxRecDepth 100000 in
set_option maxHeartbeats 4000000 in
theorem replace_any (p : Ps) (d : Value) (l : List Sp) (w : World) (h : RdE elS w d l) : Calls Try.prog 10 #[aP p d] w (PassQ (.slice none 0 0) (if repE p l = 0 then repP p else p0) (if repE p l = 0 then l else []) (repE p l) w) := by
  have C1 := Lib.hid (fun w' (hb : Below w.heap.size w w') => check_any p d l w' (h.below hb))
  have C2 := Lib.hid (fun (hl : l.length ≤ 1000) w' (hb : Below w.heap.size w w') => own_any p d l w' (h.below hb) hl)
  have HE := Lib.hid (fun (hz : passE p l = 0) => passE_ok.1 hz)
  unfold repE
  obtain ⟨E, hE⟩ : ∃ E, passE p l = E := ⟨_, rfl⟩
  rw [hE] at C1 HE ⊢
  clear hE
  obtain ⟨id, born, a, b, ser⟩ := p
  obtain ⟨x, cap, rfl, _, _, _⟩ := h
  simp only [repP]
  have HA := Lib.hid (((br w).alloc (Nat.le_refl _) (.cells #[.int .i64 id, .int .i64 born, .int .i64 a, .int .i64 b, .int .i64 ser, .slice x l.length cap] 24)).alloc (by simp) (.cells #[.int .i64 0, .int .i64 0, .int .i64 0, .int .i64 0, .int .i64 0, .slice none 0 0] 24))
  have hx : Pb (w.alloc (.cells #[.int .i64 id, .int .i64 born, .int .i64 a, .int .i64 b, .int .i64 ser, .slice x l.length cap] 24)) w.heap.size ⟨id, born, a, b, ser⟩ (.slice x l.length cap) := Box.new w _ _
  have HX := Lib.hid (Box.alloc hx (.cells #[.int .i64 0, .int .i64 0, .int .i64 0, .int .i64 0, .int .i64 0, .slice none 0 0] 24))
  have hy : Pb ((w.alloc (.cells #[.int .i64 id, .int .i64 born, .int .i64 a, .int .i64 b, .int .i64 ser, .slice x l.length cap] 24)).alloc (.cells #[.int .i64 0, .int .i64 0, .int .i64 0, .int .i64 0, .int .i64 0, .slice none 0 0] 24)) (w.alloc (.cells #[.int .i64 id, .int .i64 born, .int .i64 a, .int .i64 b, .int .i64 ser, .slice x l.length cap] 24)).heap.size ⟨0, 0, 0, 0, 0⟩ (.slice none 0 0) := Box.new _ _ _
  rw [asz] at hy
  have HY := Lib.hid hy
  clear hy hx
  by_cases c : E = 0
  · subst c
    obtain ⟨⟨_, _, _, _, _, _, s1, s2⟩, hk, _⟩ := HE.out rfl
    simp only at s1 s2
    have hlen := ((chkS_ok l).1 hk).1
    have HC2 := Lib.hid (C2.out (by omega))
    clear hk C2
    rw [if_pos (show (0 : Int) = 0 from rfl)]
    by_cases c9 : ser = 999
    · subst c9
      rw [if_pos rfl, if_neg (by decide), if_neg (by decide)]
      go_enter Try.func10, Try.ntmps10
      go_wp2_with fail
      refine (C1.out _ (by first | exact HA.out | exact bn HA.out _)).mono ?_
      rintro en w2 ⟨rfl, b2⟩
      have HB := Lib.hid (bt HA.out b2)
      have hx := HX.out.next b2
      have hy := HY.out.next b2
      have hlt := hy.lt
      have hlt0 := hx.lt
      have k0 := hx.cell 0; have k1 := hx.cell 1; have k2 := hx.cell 2; have k3 := hx.cell 3; have k4 := hx.cell 4; have k5 := hx.cell 5
      simp only [List.getElem?_cons_zero, List.getElem?_cons_succ] at k0 k1 k2 k3 k4 k5
      have z0 := hy.cell 0; have z1 := hy.cell 1; have z2 := hy.cell 2; have z3 := hy.cell 3; have z4 := hy.cell 4; have z5 := hy.cell 5
      simp only [List.getElem?_cons_zero, List.getElem?_cons_succ] at z0 z1 z2 z3 z4 z5
      have f0 := hy.froz 0; have f1 := hy.froz 1; have f2 := hy.froz 2; have f3 := hy.froz 3; have f4 := hy.froz 4; have f5 := hy.froz 5
      have HY2 := Lib.hid hy
      clear b2 hx hy HX HA HY C1 HC2
      go_wp2
      have P := Pb.put HY2.out ⟨0, 0, 0, 0, 0⟩ (.slice none 0 0)
      have Q := below6 HB.out (b := w.heap.size + 1) (by omega) (.int .i64 0) (.int .i64 0) (.int .i64 0) (.int .i64 0) (.int .i64 0) ((.slice none 0 0))
      generalize (((((w2.setCell ⟨w.heap.size + 1, 0, none⟩ (.int .i64 0)).setCell ⟨w.heap.size + 1, 1, none⟩ (.int .i64 0)).setCell ⟨w.heap.size + 1, 2, none⟩ (.int .i64 0)).setCell ⟨w.heap.size + 1, 3, none⟩ (.int .i64 0)).setCell ⟨w.heap.size + 1, 4, none⟩ (.int .i64 0)).setCell ⟨w.heap.size + 1, 5, none⟩ ((.slice none 0 0)) = W2 at P Q ⊢
      have y0 := P.cell 0; have y1 := P.cell 1; have y2 := P.cell 2; have y3 := P.cell 3; have y4 := P.cell 4; have y5 := P.cell 5
      simp only [List.getElem?_cons_zero, List.getElem?_cons_succ] at y0 y1 y2 y3 y4 y5
      refine bodyPost_ret (v := .tuple #[aP ⟨0, 0, 0, 0, 0⟩ (.slice none 0 0), .int .i64 2]) (by simp [results, Try.results10, go_sem, y0, y1, y2, y3, y4, y5]) rfl ⟨_, rfl, rd_nil _, fun _ _ _ => off_nil _, Q⟩
    · rw [if_neg c9, if_pos rfl, if_pos rfl]
      have h9 : (ser == 999) = false := by simpa using c9
      go_enter Try.func10, Try.ntmps10
      go_wp2_with fail
      refine (C1.out _ (by first | exact HA.out | exact bn HA.out _)).mono ?_
      rintro en w2 ⟨rfl, b2⟩
      have HB := Lib.hid (bt HA.out b2)
      have hx := HX.out.next b2
      have hy := HY.out.next b2
      have hlt := hy.lt
      have hlt0 := hx.lt
      have k0 := hx.cell 0; have k1 := hx.cell 1; have k2 := hx.cell 2; have k3 := hx.cell 3; have k4 := hx.cell 4; have k5 := hx.cell 5
      simp only [List.getElem?_cons_zero, List.getElem?_cons_succ] at k0 k1 k2 k3 k4 k5
      have HY2 := Lib.hid hy
      have HX2 := Lib.hid hx
      clear b2 hx hy HX HA HY C1
      go_wp2_with fail
      refine (HC2.out _ HB.out).mono ?_
      rintro en w3 ⟨v3, rfl, hv3, ho3, b3⟩
      have HO3 := Lib.hid (fun b (hb : b < w.heap.size + 2) => ho3 b (by omega))
      have HB3 := Lib.hid (bt HB.out b3)
      have hx := HX2.out.next b3
      have hy := HY2.out.next b3
      have hlt1 := hy.lt
      have HV3 := Lib.hid hv3
      obtain ⟨x3, cap3, rfl, _, _, _⟩ := hv3
      clear ho3 k0 k1 k2 k3 k4 k5
      have k0 := hx.cell 0; have k1 := hx.cell 1; have k2 := hx.cell 2; have k3 := hx.cell 3; have k4 := hx.cell 4; have k5 := hx.cell 5
      simp only [List.getElem?_cons_zero, List.getElem?_cons_succ] at k0 k1 k2 k3 k4 k5
      have f0 := hx.froz 0; have f1 := hx.froz 1; have f2 := hx.froz 2; have f3 := hx.froz 3; have f4 := hx.froz 4; have f5 := hx.froz 5
      have HX4 := Lib.hid (Pb.put hx ⟨id, born, a, b, ser⟩ (.slice x3 l.length cap3))
      have HB4 := Lib.hid (below6 HB3.out (b := w.heap.size) (by omega) (.int .i64 id) (.int .i64 born) (.int .i64 a) (.int .i64 b) (.int .i64 ser) ((.slice x3 l.length cap3)))
      have HV4 := Lib.hid (rd_put6 (b := w.heap.size) HV3.out (HO3.out _ (by omega)) (.int .i64 id) (.int .i64 born) (.int .i64 a) (.int .i64 b) (.int .i64 ser) ((.slice x3 l.length cap3)))
      have HY4 := Lib.hid (Bx.others (b' := w.heap.size) hy (by omega) (.int .i64 id) (.int .i64 born) (.int .i64 a) (.int .i64 b) (.int .i64 ser) ((.slice x3 l.length cap3)))
      clear b3 hx hy HX2 HY2 HB3 HV3 HC2
      go_upto_region 7 with (fail)
      generalize (((((w3.setCell ⟨w.heap.size, 0, none⟩ (.int .i64 id)).setCell ⟨w.heap.size, 1, none⟩ (.int .i64 born)).setCell ⟨w.heap.size, 2, none⟩ (.int .i64 a)).setCell ⟨w.heap.size, 3, none⟩ (.int .i64 b)).setCell ⟨w.heap.size, 4, none⟩ (.int .i64 ser)).setCell ⟨w.heap.size, 5, none⟩ ((.slice x3 l.length cap3)) = W4 at HX4 HB4 HV4 HY4 ⊢
      clear k0 k1 k2 k3 k4 k5 f0 f1 f2 f3 f4 f5
      have hx := HX4.out
      have hy := HY4.out
      have hlt2 := hy.lt
      have hlt3 := hx.lt
      try simp only at hx
      have k0 := hx.cell 0; have k1 := hx.cell 1; have k2 := hx.cell 2; have k3 := hx.cell 3; have k4 := hx.cell 4; have k5 := hx.cell 5
      simp only [List.getElem?_cons_zero, List.getElem?_cons_succ] at k0 k1 k2 k3 k4 k5
      have f0 := hx.froz 0; have f1 := hx.froz 1; have f2 := hx.froz 2; have f3 := hx.froz 3; have f4 := hx.froz 4; have f5 := hx.froz 5
      have HX5 := Lib.hid (hx.set 4 (.int .i64 (ser + 1)))
      have HB5 := Lib.hid (HB4.out.setCell (p := ⟨w.heap.size, 4, none⟩) (Nat.le_refl _) (.int .i64 (ser + 1)))
      have HV5 := Lib.hid (rd_put (b := w.heap.size) HV4.out (HO3.out _ (by omega)) 4 (.int .i64 (ser + 1)))
      have HY5 := Lib.hid (hy.other w.heap.size 4 (.int .i64 (ser + 1)) (by omega))
      clear hx hy HX4 HB4 HV4 HY4
      go_upto_region 8 with (fail)
      generalize W4.setCell ⟨w.heap.size, 4, none⟩ (.int .i64 (ser + 1)) = W5 at HX5 HB5 HV5 HY5 ⊢
      clear k0 k1 k2 k3 k4 k5 f0 f1 f2 f3 f4 f5 hlt2 hlt3
      have hx := HX5.out
      have hy := HY5.out
      have hlt2 := hy.lt
      simp only [List.set_cons_zero, List.set_cons_succ] at hx
      have k0 := hx.cell 0; have k1 := hx.cell 1; have k2 := hx.cell 2; have k3 := hx.cell 3; have k4 := hx.cell 4; have k5 := hx.cell 5
      simp only [List.getElem?_cons_zero, List.getElem?_cons_succ] at k0 k1 k2 k3 k4 k5
      have z0 := hy.cell 0; have z1 := hy.cell 1; have z2 := hy.cell 2; have z3 := hy.cell 3; have z4 := hy.cell 4; have z5 := hy.cell 5
      simp only [List.getElem?_cons_zero, List.getElem?_cons_succ] at z0 z1 z2 z3 z4 z5
      have f0 := hy.froz 0; have f1 := hy.froz 1; have f2 := hy.froz 2; have f3 := hy.froz 3; have f4 := hy.froz 4; have f5 := hy.froz 5
      clear hx hy HX5
      go_wp2
      have P := Pb.put HY5.out ⟨id, born, a, b, ser + 1⟩ (.slice x3 l.length cap3)
      have Q := below6 HB5.out (b := w.heap.size + 1) (by omega) (.int .i64 id) (.int .i64 born) (.int .i64 a) (.int .i64 b) (.int .i64 (ser + 1)) ((.slice x3 l.length cap3))
      have R := rd_put6 (b := w.heap.size + 1) HV5.out (HO3.out _ (by omega)) (.int .i64 id) (.int .i64 born) (.int .i64 a) (.int .i64 b) (.int .i64 (ser + 1)) ((.slice x3 l.length cap3))
      generalize (((((W5.setCell ⟨w.heap.size + 1, 0, none⟩ (.int .i64 id)).setCell ⟨w.heap.size + 1, 1, none⟩ (.int .i64 born)).setCell ⟨w.heap.size + 1, 2, none⟩ (.int .i64 a)).setCell ⟨w.heap.size + 1, 3, none⟩ (.int .i64 b)).setCell ⟨w.heap.size + 1, 4, none⟩ (.int .i64 (ser + 1))).setCell ⟨w.heap.size + 1, 5, none⟩ ((.slice x3 l.length cap3)) = W2 at P Q R ⊢
      have y0 := P.cell 0; have y1 := P.cell 1; have y2 := P.cell 2; have y3 := P.cell 3; have y4 := P.cell 4; have y5 := P.cell 5
      simp only [List.getElem?_cons_zero, List.getElem?_cons_succ] at y0 y1 y2 y3 y4 y5
      refine bodyPost_ret (v := .tuple #[aP ⟨id, born, a, b, ser + 1⟩ (.slice x3 l.length cap3), .int .i64 0]) (by simp [results, Try.results10, go_sem, y0, y1, y2, y3, y4, y5]) rfl ⟨_, rfl, R, fun b hb _ => HO3.out b (by omega), Q⟩
  · rw [if_neg c, if_neg c, if_neg c]
    have hz : (E == 0) = false := by simpa using c
    go_enter Try.func10, Try.ntmps10
    go_wp2_with fail
    refine (C1.out _ (by first | exact HA.out | exact bn HA.out _)).mono ?_
    rintro en w2 ⟨rfl, b2⟩
    have HB := Lib.hid (bt HA.out b2)
    have hx := HX.out.next b2
    have hy := HY.out.next b2
    have hlt := hy.lt
    have hlt0 := hx.lt
    have k0 := hx.cell 0; have k1 := hx.cell 1; have k2 := hx.cell 2; have k3 := hx.cell 3; have k4 := hx.cell 4; have k5 := hx.cell 5
    simp only [List.getElem?_cons_zero, List.getElem?_cons_succ] at k0 k1 k2 k3 k4 k5
    have z0 := hy.cell 0; have z1 := hy.cell 1; have z2 := hy.cell 2; have z3 := hy.cell 3; have z4 := hy.cell 4; have z5 := hy.cell 5
    simp only [List.getElem?_cons_zero, List.getElem?_cons_succ] at z0 z1 z2 z3 z4 z5
    have f0 := hy.froz 0; have f1 := hy.froz 1; have f2 := hy.froz 2; have f3 := hy.froz 3; have f4 := hy.froz 4; have f5 := hy.froz 5
    have HY2 := Lib.hid hy
    clear b2 hx hy HX HA HY C1 C2
    go_wp2
    have P := Pb.put HY2.out ⟨0, 0, 0, 0, 0⟩ (.slice none 0 0)
    have Q := below6 HB.out (b := w.heap.size + 1) (by omega) (.int .i64 0) (.int .i64 0) (.int .i64 0) (.int .i64 0) (.int .i64 0) ((.slice none 0 0))
    generalize (((((w2.setCell ⟨w.heap.size + 1, 0, none⟩ (.int .i64 0)).setCell ⟨w.heap.size + 1, 1, none⟩ (.int .i64 0)).setCell ⟨w.heap.size + 1, 2, none⟩ (.int .i64 0)).setCell ⟨w.heap.size + 1, 3, none⟩ (.int .i64 0)).setCell ⟨w.heap.size + 1, 4, none⟩ (.int .i64 0)).setCell ⟨w.heap.size + 1, 5, none⟩ ((.slice none 0 0)) = W2 at P Q ⊢
    have y0 := P.cell 0; have y1 := P.cell 1; have y2 := P.cell 2; have y3 := P.cell 3; have y4 := P.cell 4; have y5 := P.cell 5
    simp only [List.getElem?_cons_zero, List.getElem?_cons_succ] at y0 y1 y2 y3 y4 y5
    refine bodyPost_ret (v := .tuple #[aP ⟨0, 0, 0, 0, 0⟩ (.slice none 0 0), .int .i64 E]) (by simp [results, Try.results10, go_sem, y0, y1, y2, y3, y4, y5]) rfl ⟨_, rfl, rd_nil _, fun _ _ _ => off_nil _, Q⟩
def cutF (p : Ps) (l : List Sp) (n : Int) : R3 := if passE p l = 0 then (if isD n = false then ((p0, []), 0, 3) else withF p l (bothR 2 l [(n, 3652060)])) else ((p0, []), 0, passE p l)
set_option maxRecDepth 100000 in
set_option maxHeartbeats 4000000 in
theorem cut_any (p : Ps) (d : Value) (l : List Sp) (n : Int) (w : World) (h : RdE elS w d l) : Calls Try.prog 9 #[aP p d, .int .i64 n] w (R3Q (.slice none 0 0) (cutF p l n) w) := by
  have C1 := Lib.hid (fun w' (hb : Below w.heap.size w w') => check_any p d l w' (h.below hb))
  have C2 := Lib.hid (fun f m w' (hb : Below w.heap.size w w') (hf : RdE elS w' f m) => with_any p d l f m w' (h.below hb) hf)
  have C3 := Lib.hid (fun f m w' (hb : Below w.heap.size w w') (hf : RdE elS w' f m) => minus_any d f l m w' (h.below hb) hf)
  have HI := Lib.hid (fun w => is_any n w)
  unfold cutF
  obtain ⟨E, hE⟩ : ∃ E, passE p l = E := ⟨_, rfl⟩
  rw [hE] at C1 ⊢
  clear hE
  obtain ⟨id, born, a, b, ser⟩ := p
  obtain ⟨x, cap, rfl, _, _, _⟩ := h
  have HA := Lib.hid (((br w).alloc (Nat.le_refl _) (.cells #[.int .i64 id, .int .i64 born, .int .i64 a, .int .i64 b, .int .i64 ser, .slice x l.length cap] 24)).alloc (by simp) (.cells #[.int .i64 0, .int .i64 0, .int .i64 0, .int .i64 0, .int .i64 0, .slice none 0 0] 24))
  have hx : Pb (w.alloc (.cells #[.int .i64 id, .int .i64 born, .int .i64 a, .int .i64 b, .int .i64 ser, .slice x l.length cap] 24)) w.heap.size ⟨id, born, a, b, ser⟩ (.slice x l.length cap) := Box.new w _ _
  have HX := Lib.hid (Box.alloc hx (.cells #[.int .i64 0, .int .i64 0, .int .i64 0, .int .i64 0, .int .i64 0, .slice none 0 0] 24))
  have hy : Pb ((w.alloc (.cells #[.int .i64 id, .int .i64 born, .int .i64 a, .int .i64 b, .int .i64 ser, .slice x l.length cap] 24)).alloc (.cells #[.int .i64 0, .int .i64 0, .int .i64 0, .int .i64 0, .int .i64 0, .slice none 0 0] 24)) (w.alloc (.cells #[.int .i64 id, .int .i64 born, .int .i64 a, .int .i64 b, .int .i64 ser, .slice x l.length cap] 24)).heap.size ⟨0, 0, 0, 0, 0⟩ (.slice none 0 0) := Box.new _ _ _
  rw [asz] at hy
  have HY := Lib.hid hy
  clear hy hx
  by_cases c : E = 0
  · subst c
    rw [if_pos (show (0 : Int) = 0 from rfl)]
    cases hD : isD n with
    | false =>
      rw [if_pos rfl]
      rw [hD] at HI
      go_enter Try.func9, Try.ntmps9
      go_wp2_with fail
      refine (C1.out _ (by first | exact HA.out | exact bn HA.out _)).mono ?_
      rintro en w2 ⟨rfl, b2⟩
      have HB := Lib.hid (bt HA.out b2)
      have hx := HX.out.next b2
      have hy := HY.out.next b2
      have hlt := hy.lt
      have hlt0 := hx.lt
      have k0 := hx.cell 0; have k1 := hx.cell 1; have k2 := hx.cell 2; have k3 := hx.cell 3; have k4 := hx.cell 4; have k5 := hx.cell 5
      simp only [List.getElem?_cons_zero, List.getElem?_cons_succ] at k0 k1 k2 k3 k4 k5
      have z0 := hy.cell 0; have z1 := hy.cell 1; have z2 := hy.cell 2; have z3 := hy.cell 3; have z4 := hy.cell 4; have z5 := hy.cell 5
      simp only [List.getElem?_cons_zero, List.getElem?_cons_succ] at z0 z1 z2 z3 z4 z5
      have f0 := hy.froz 0; have f1 := hy.froz 1; have f2 := hy.froz 2; have f3 := hy.froz 3; have f4 := hy.froz 4; have f5 := hy.froz 5
      have HY2 := Lib.hid hy
      clear b2 hx hy HX HA HY C1 C2 C3 hD
      go_wp2_with (first | (go_at_call 26; (with_reducible refine (HI.out _).mono ?_); rintro en w3 ⟨rfl, rfl⟩))
      have P := Pb.put HY2.out ⟨0, 0, 0, 0, 0⟩ (.slice none 0 0)
      have Q := below6 HB.out (b := w.heap.size + 1) (by omega) (.int .i64 0) (.int .i64 0) (.int .i64 0) (.int .i64 0) (.int .i64 0) ((.slice none 0 0))
      generalize (((((w2.setCell ⟨w.heap.size + 1, 0, none⟩ (.int .i64 0)).setCell ⟨w.heap.size + 1, 1, none⟩ (.int .i64 0)).setCell ⟨w.heap.size + 1, 2, none⟩ (.int .i64 0)).setCell ⟨w.heap.size + 1, 3, none⟩ (.int .i64 0)).setCell ⟨w.heap.size + 1, 4, none⟩ (.int .i64 0)).setCell ⟨w.heap.size + 1, 5, none⟩ ((.slice none 0 0)) = W2 at P Q ⊢
      have y0 := P.cell 0; have y1 := P.cell 1; have y2 := P.cell 2; have y3 := P.cell 3; have y4 := P.cell 4; have y5 := P.cell 5
      simp only [List.getElem?_cons_zero, List.getElem?_cons_succ] at y0 y1 y2 y3 y4 y5
      refine bodyPost_ret (v := .tuple #[aP ⟨0, 0, 0, 0, 0⟩ (.slice none 0 0), .int .i64 0, .int .i64 3]) (by simp [results, Try.results9, go_sem, y0, y1, y2, y3, y4, y5]) rfl ⟨_, rfl, rd_nil _, fun _ _ _ => off_nil _, Q⟩
    | true =>
      rw [if_neg (by simp)]
      rw [hD] at HI
      clear hD
      obtain ⟨r, hr⟩ : ∃ r, withF ⟨id, born, a, b, ser⟩ l (bothR 2 l [(n, 3652060)]) = r := ⟨_, rfl⟩
      have C4 := Lib.hid (fun f w' hb hf => C2.out f (bothR 2 l [(n, 3652060)]) w' hb hf)
      rw [hr] at C4 ⊢
      clear hr C2
      obtain ⟨⟨⟨i1, i2, i3, i4, i5⟩, M⟩, N, E2⟩ := r
      try simp only at C4 ⊢
      go_enter Try.func9, Try.ntmps9
      go_wp2_with fail
      refine (C1.out _ (by first | exact HA.out | exact bn HA.out _)).mono ?_
      rintro en w2 ⟨rfl, b2⟩
      have HB := Lib.hid (bt HA.out b2)
      have hx := HX.out.next b2
      have hy := HY.out.next b2
      have hlt := hy.lt
      have hlt0 := hx.lt
      have k0 := hx.cell 0; have k1 := hx.cell 1; have k2 := hx.cell 2; have k3 := hx.cell 3; have k4 := hx.cell 4; have k5 := hx.cell 5
      simp only [List.getElem?_cons_zero, List.getElem?_cons_succ] at k0 k1 k2 k3 k4 k5
      have HY2 := Lib.hid hy
      have HX2 := Lib.hid hx
      have HL := Lib.hid (rd_lit elS [(n, 3652060)] w2 51 (0, 0) w2.heap.size rfl (by simp [maxLen]))
      clear b2 hx hy HX HA HY C1
      go_wp2_with (first | (go_at_call 26; (with_reducible refine (HI.out _).mono ?_); rintro en w3 ⟨rfl, rfl⟩))
      refine (C3.out _ [(n, 3652060)] _ (HB.out.alloc HB.out.size _) HL.out).mono ?_
      rintro en w4 ⟨v4, rfl, ho4, b4⟩
      have HB4 := Lib.hid (bt (HB.out.alloc HB.out.size _) b4)
      have hx := (HX2.out.alloc _).next b4
      have HY4 := Lib.hid ((HY2.out.alloc _).next b4)
      have HV4 := Lib.hid ho4.rd
      have HO4 := Lib.hid (fun b (hb : b < w.heap.size + 2) => off_own ho4 (b := b) (by simp; omega))
      obtain ⟨x4, cap4, rfl, _, _, _⟩ := ho4.rd
      clear ho4 k0 k1 k2 k3 k4 k5
      have k0 := hx.cell 0; have k1 := hx.cell 1; have k2 := hx.cell 2; have k3 := hx.cell 3; have k4 := hx.cell 4; have k5 := hx.cell 5
      simp only [List.getElem?_cons_zero, List.getElem?_cons_succ] at k0 k1 k2 k3 k4 k5
      clear b4 hx HX2 HY2 HL HB C3
      go_wp2_with fail
      refine (C4.out _ _ HB4.out HV4.out).mono ?_
      rintro en w5 ⟨v5, rfl, hv5, ho5, b5⟩
      have HB5 := Lib.hid (bt HB4.out b5)
      have hy := HY4.out.next b5
      have HO5 := Lib.hid (fun b (hb : b < w.heap.size + 2) => ho5 b (by have := HY4.out.lt; omega) (HO4.out b hb))
      have hlt9 := hy.lt
      have HV5 := Lib.hid hv5
      obtain ⟨x5, cap5, rfl, _, _, _⟩ := hv5
      have z0 := hy.cell 0; have z1 := hy.cell 1; have z2 := hy.cell 2; have z3 := hy.cell 3; have z4 := hy.cell 4; have z5 := hy.cell 5
      simp only [List.getElem?_cons_zero, List.getElem?_cons_succ] at z0 z1 z2 z3 z4 z5
      have f0 := hy.froz 0; have f1 := hy.froz 1; have f2 := hy.froz 2; have f3 := hy.froz 3; have f4 := hy.froz 4; have f5 := hy.froz 5
      have HY5 := Lib.hid hy
      clear b5 hy ho5 HY4 HO4 HV4 C4
      go_wp2
      have P := Pb.put HY5.out ⟨i1, i2, i3, i4, i5⟩ (.slice x5 M.length cap5)
      have Q := below6 HB5.out (b := w.heap.size + 1) (by omega) (.int .i64 i1) (.int .i64 i2) (.int .i64 i3) (.int .i64 i4) (.int .i64 i5) ((.slice x5 M.length cap5))
      have R := rd_put6 (b := w.heap.size + 1) HV5.out (HO5.out _ (by omega)) (.int .i64 i1) (.int .i64 i2) (.int .i64 i3) (.int .i64 i4) (.int .i64 i5) ((.slice x5 M.length cap5))
      generalize (((((w5.setCell ⟨w.heap.size + 1, 0, none⟩ (.int .i64 i1)).setCell ⟨w.heap.size + 1, 1, none⟩ (.int .i64 i2)).setCell ⟨w.heap.size + 1, 2, none⟩ (.int .i64 i3)).setCell ⟨w.heap.size + 1, 3, none⟩ (.int .i64 i4)).setCell ⟨w.heap.size + 1, 4, none⟩ (.int .i64 i5)).setCell ⟨w.heap.size + 1, 5, none⟩ ((.slice x5 M.length cap5)) = W2 at P Q R ⊢
      have y0 := P.cell 0; have y1 := P.cell 1; have y2 := P.cell 2; have y3 := P.cell 3; have y4 := P.cell 4; have y5 := P.cell 5
      simp only [List.getElem?_cons_zero, List.getElem?_cons_succ] at y0 y1 y2 y3 y4 y5
      refine bodyPost_ret (v := .tuple #[aP ⟨i1, i2, i3, i4, i5⟩ (.slice x5 M.length cap5), .int .i64 N, .int .i64 E2]) (by simp [results, Try.results9, go_sem, y0, y1, y2, y3, y4, y5]) rfl ⟨_, rfl, R, fun b hb _ => HO5.out b (by omega), Q⟩
  · rw [if_neg c]
    have hz : (E == 0) = false := by simpa using c
    go_enter Try.func9, Try.ntmps9
    go_wp2_with fail
    refine (C1.out _ (by first | exact HA.out | exact bn HA.out _)).mono ?_
    rintro en w2 ⟨rfl, b2⟩
    have HB := Lib.hid (bt HA.out b2)
    have hx := HX.out.next b2
    have hy := HY.out.next b2
    have hlt := hy.lt
    have hlt0 := hx.lt
    have k0 := hx.cell 0; have k1 := hx.cell 1; have k2 := hx.cell 2; have k3 := hx.cell 3; have k4 := hx.cell 4; have k5 := hx.cell 5
    simp only [List.getElem?_cons_zero, List.getElem?_cons_succ] at k0 k1 k2 k3 k4 k5
    have z0 := hy.cell 0; have z1 := hy.cell 1; have z2 := hy.cell 2; have z3 := hy.cell 3; have z4 := hy.cell 4; have z5 := hy.cell 5
    simp only [List.getElem?_cons_zero, List.getElem?_cons_succ] at z0 z1 z2 z3 z4 z5
    have f0 := hy.froz 0; have f1 := hy.froz 1; have f2 := hy.froz 2; have f3 := hy.froz 3; have f4 := hy.froz 4; have f5 := hy.froz 5
    have HY2 := Lib.hid hy
    clear b2 hx hy HX HA HY C1 C2 C3
    go_wp2
    have P := Pb.put HY2.out ⟨0, 0, 0, 0, 0⟩ (.slice none 0 0)
    have Q := below6 HB.out (b := w.heap.size + 1) (by omega) (.int .i64 0) (.int .i64 0) (.int .i64 0) (.int .i64 0) (.int .i64 0) ((.slice none 0 0))
    generalize (((((w2.setCell ⟨w.heap.size + 1, 0, none⟩ (.int .i64 0)).setCell ⟨w.heap.size + 1, 1, none⟩ (.int .i64 0)).setCell ⟨w.heap.size + 1, 2, none⟩ (.int .i64 0)).setCell ⟨w.heap.size + 1, 3, none⟩ (.int .i64 0)).setCell ⟨w.heap.size + 1, 4, none⟩ (.int .i64 0)).setCell ⟨w.heap.size + 1, 5, none⟩ ((.slice none 0 0)) = W2 at P Q ⊢
    have y0 := P.cell 0; have y1 := P.cell 1; have y2 := P.cell 2; have y3 := P.cell 3; have y4 := P.cell 4; have y5 := P.cell 5
    simp only [List.getElem?_cons_zero, List.getElem?_cons_succ] at y0 y1 y2 y3 y4 y5
    refine bodyPost_ret (v := .tuple #[aP ⟨0, 0, 0, 0, 0⟩ (.slice none 0 0), .int .i64 0, .int .i64 E]) (by simp [results, Try.results9, go_sem, y0, y1, y2, y3, y4, y5]) rfl ⟨_, rfl, rd_nil _, fun _ _ _ => off_nil _, Q⟩
end Pa
end Go.Proofs.Ytcgncmlldjblmaa
/- Passes: a pass is renewed. (gen_pass3.py) -/
set_option linter.unusedVariables false
namespace Go.Proofs.Ytcgncmlldjblmaa
open Go.RowKit
namespace Pa
open Dt Sn
def frm (l : List Sp) (n : Int) : Int := max n (endD l)
def renF (p : Ps) (l : List Sp) (n u N : Int) : R3 := if passE p l = 0 then (if isD n = false then ((p0, []), 0, 3) else if (nthF u N (frm l n) 1).2 = 0 then (if bothE 0 l (oneL (frm l n) u N) = 0 then withF p l (bothR 0 l (oneL (frm l n) u N)) else ((p0, []), 0, bothE 0 l (oneL (frm l n) u N))) else ((p0, []), 0, (nthF u N (frm l n) 1).2)) else ((p0, []), 0, passE p l)
set_option maxRecDepth 100000 in
set_option maxHeartbeats 4000000 in
theorem renew_any (p : Ps) (d : Value) (l : List Sp) (n u N : Int) (w : World) (h : RdE elS w d l) : Calls Try.prog 20 #[aP p d, .int .i64 n, aT u N] w (R3Q (.slice none 0 0) (renF p l n u N) w) := by
  have C1 := Lib.hid (fun w' (hb : Below w.heap.size w w') => check_any p d l w' (h.below hb))
  have C3 := Lib.hid (fun w' (hb : Below w.heap.size w w') => end_any p d l w' (h.below hb))
  have C2 := Lib.hid (fun f m w' (hb : Below w.heap.size w w') (hf : RdE elS w' f m) => with_any p d l f m w' (h.below hb) hf)
  have C5 := Lib.hid (fun f m w' (hb : Below w.heap.size w w') (hf : RdE elS w' f m) => union_any d f l m w' (h.below hb) hf)
  have C4 := Lib.hid (fun w' => one_any (frm l n) u N w')
  have HI := Lib.hid (fun w => is_any n w)
  unfold renF
  generalize oneL (frm l n) u N = L at *
  have C7 := Lib.hid (fun f w' hb hf => C5.out f L w' hb hf)
  have C6 := Lib.hid (fun f w' hb hf => C2.out f (bothR 0 l L) w' hb hf)
  clear C2 C5
  obtain ⟨E5, hE5⟩ : ∃ E, bothE 0 l L = E := ⟨_, rfl⟩
  obtain ⟨M0, hM0⟩ : ∃ E, bothR 0 l L = E := ⟨_, rfl⟩
  rw [hE5, hM0] at C7 ⊢
  rw [hM0] at C6
  clear hE5 hM0
  obtain ⟨E4, hE4⟩ : ∃ E, (nthF u N (frm l n) 1).2 = E := ⟨_, rfl⟩
  rw [hE4] at C4 ⊢
  clear hE4
  unfold frm at C4
  obtain ⟨en, hen⟩ : ∃ e, endD l = e := ⟨_, rfl⟩
  rw [hen] at C3 C4
  clear hen
  unfold aT at C4 ⊢
  obtain ⟨E, hE⟩ : ∃ E, passE p l = E := ⟨_, rfl⟩
  rw [hE] at C1 ⊢
  clear hE
  obtain ⟨id, born, a, b, ser⟩ := p
  obtain ⟨x, cap, rfl, _, _, _⟩ := h
  have HA := Lib.hid ((((br w).alloc (Nat.le_refl _) (.cells #[.int .i64 id, .int .i64 born, .int .i64 a, .int .i64 b, .int .i64 ser, .slice x l.length cap] 24)).alloc (by simp) (.cells #[.int .i64 u, .int .i64 N] 26)).alloc (by simp; omega) (.cells #[.int .i64 0, .int .i64 0, .int .i64 0, .int .i64 0, .int .i64 0, .slice none 0 0] 24))
  have hx : Pb (w.alloc (.cells #[.int .i64 id, .int .i64 born, .int .i64 a, .int .i64 b, .int .i64 ser, .slice x l.length cap] 24)) w.heap.size ⟨id, born, a, b, ser⟩ (.slice x l.length cap) := Box.new w _ _
  have HX := Lib.hid (Box.alloc (Box.alloc hx (.cells #[.int .i64 u, .int .i64 N] 26)) (.cells #[.int .i64 0, .int .i64 0, .int .i64 0, .int .i64 0, .int .i64 0, .slice none 0 0] 24))
  have ht : Box ((w.alloc (.cells #[.int .i64 id, .int .i64 born, .int .i64 a, .int .i64 b, .int .i64 ser, .slice x l.length cap] 24)).alloc (.cells #[.int .i64 u, .int .i64 N] 26)) (w.alloc (.cells #[.int .i64 id, .int .i64 born, .int .i64 a, .int .i64 b, .int .i64 ser, .slice x l.length cap] 24)).heap.size 26 [.int .i64 u, .int .i64 N] := Box.new _ _ _
  rw [asz] at ht
  have HT := Lib.hid (Box.alloc ht (.cells #[.int .i64 0, .int .i64 0, .int .i64 0, .int .i64 0, .int .i64 0, .slice none 0 0] 24))
  have hy : Pb (((w.alloc (.cells #[.int .i64 id, .int .i64 born, .int .i64 a, .int .i64 b, .int .i64 ser, .slice x l.length cap] 24)).alloc (.cells #[.int .i64 u, .int .i64 N] 26)).alloc (.cells #[.int .i64 0, .int .i64 0, .int .i64 0, .int .i64 0, .int .i64 0, .slice none 0 0] 24)) ((w.alloc (.cells #[.int .i64 id, .int .i64 born, .int .i64 a, .int .i64 b, .int .i64 ser, .slice x l.length cap] 24)).alloc (.cells #[.int .i64 u, .int .i64 N] 26)).heap.size ⟨0, 0, 0, 0, 0⟩ (.slice none 0 0) := Box.new _ _ _
  rw [asz, asz] at hy
  have HY := Lib.hid hy
  clear hy hx ht
  by_cases c : E = 0
  · subst c
    rw [if_pos (show (0 : Int) = 0 from rfl)]
    cases hD : isD n with
    | false =>
      rw [if_pos rfl]
      rw [hD] at HI
      clear hD C6 C3 C4 C7
      go_enter Try.func20, Try.ntmps20
      go_wp2_with fail
      refine (C1.out _ (by first | exact HA.out | exact bn HA.out _)).mono ?_
      rintro en w2 ⟨rfl, b2⟩
      have HB := Lib.hid (bt HA.out b2)
      have hx := HX.out.next b2
      have hy := HY.out.next b2
      have ht := HT.out.next b2
      have hlt := hy.lt
      have hlt0 := hx.lt
      have hlt1 := ht.lt
      have k0 := hx.cell 0; have k1 := hx.cell 1; have k2 := hx.cell 2; have k3 := hx.cell 3; have k4 := hx.cell 4; have k5 := hx.cell 5
      simp only [List.getElem?_cons_zero, List.getElem?_cons_succ] at k0 k1 k2 k3 k4 k5
      have t0 := ht.cell 0; have t1 := ht.cell 1
      simp only [List.getElem?_cons_zero, List.getElem?_cons_succ] at t0 t1
      have z0 := hy.cell 0; have z1 := hy.cell 1; have z2 := hy.cell 2; have z3 := hy.cell 3; have z4 := hy.cell 4; have z5 := hy.cell 5
      simp only [List.getElem?_cons_zero, List.getElem?_cons_succ] at z0 z1 z2 z3 z4 z5
      have f0 := hy.froz 0; have f1 := hy.froz 1; have f2 := hy.froz 2; have f3 := hy.froz 3; have f4 := hy.froz 4; have f5 := hy.froz 5
      have HX2 := Lib.hid hx; have HY2 := Lib.hid hy; have HT2 := Lib.hid ht
      clear b2 hx hy ht HX HA HY HT C1
      go_wp2_with (first | (go_at_call 26; (with_reducible refine (HI.out _).mono ?_); rintro en w3 ⟨rfl, rfl⟩))
      have P := Pb.put HY2.out ⟨0, 0, 0, 0, 0⟩ (.slice none 0 0)
      have Q := below6 HB.out (b := w.heap.size + 2) (by omega) (.int .i64 0) (.int .i64 0) (.int .i64 0) (.int .i64 0) (.int .i64 0) ((.slice none 0 0))
      generalize (((((w2.setCell ⟨w.heap.size + 2, 0, none⟩ (.int .i64 0)).setCell ⟨w.heap.size + 2, 1, none⟩ (.int .i64 0)).setCell ⟨w.heap.size + 2, 2, none⟩ (.int .i64 0)).setCell ⟨w.heap.size + 2, 3, none⟩ (.int .i64 0)).setCell ⟨w.heap.size + 2, 4, none⟩ (.int .i64 0)).setCell ⟨w.heap.size + 2, 5, none⟩ ((.slice none 0 0)) = W2 at P Q ⊢
      have y0 := P.cell 0; have y1 := P.cell 1; have y2 := P.cell 2; have y3 := P.cell 3; have y4 := P.cell 4; have y5 := P.cell 5
      simp only [List.getElem?_cons_zero, List.getElem?_cons_succ] at y0 y1 y2 y3 y4 y5
      refine bodyPost_ret (v := .tuple #[aP ⟨0, 0, 0, 0, 0⟩ (.slice none 0 0), .int .i64 0, .int .i64 3]) (by simp [results, Try.results20, go_sem, y0, y1, y2, y3, y4, y5]) rfl ⟨_, rfl, rd_nil _, fun _ _ _ => off_nil _, Q⟩
    | true =>
      rw [if_neg (by simp)]
      rw [hD] at HI
      clear hD
      obtain ⟨R, hR⟩ : ∃ R : R3, (if E4 = 0 then (if E5 = 0 then withF ⟨id, born, a, b, ser⟩ l M0 else ((p0, []), 0, E5)) else ((p0, []), 0, E4)) = R := ⟨_, rfl⟩
      rw [hR]
      have HR := Lib.hid hR
      clear hR
      go_enter Try.func20, Try.ntmps20
      go_wp2_with fail
      refine (C1.out _ (by first | exact HA.out | exact bn HA.out _)).mono ?_
      rintro en w2 ⟨rfl, b2⟩
      have HB := Lib.hid (bt HA.out b2)
      have hx := HX.out.next b2
      have hy := HY.out.next b2
      have ht := HT.out.next b2
      have hlt := hy.lt
      have hlt0 := hx.lt
      have hlt1 := ht.lt
      have k0 := hx.cell 0; have k1 := hx.cell 1; have k2 := hx.cell 2; have k3 := hx.cell 3; have k4 := hx.cell 4; have k5 := hx.cell 5
      simp only [List.getElem?_cons_zero, List.getElem?_cons_succ] at k0 k1 k2 k3 k4 k5
      have t0 := ht.cell 0; have t1 := ht.cell 1
      simp only [List.getElem?_cons_zero, List.getElem?_cons_succ] at t0 t1
      have HX2 := Lib.hid hx; have HY2 := Lib.hid hy; have HT2 := Lib.hid ht
      clear b2 hx hy ht HX HA HY HT C1
      go_wp2_with (first | (go_at_call 26; (with_reducible refine (HI.out _).mono ?_); rintro en w3 ⟨rfl, rfl⟩))
      have HBd := Lib.hid (bn HB.out 1)
      go_region_held3 (fun w' => w'.cell? ⟨w.heap.size, 0, none⟩ = some (.int .i64 id) ∧ w'.cell? ⟨w.heap.size, 1, none⟩ = some (.int .i64 born) ∧ w'.cell? ⟨w.heap.size, 2, none⟩ = some (.int .i64 a) ∧ w'.cell? ⟨w.heap.size, 3, none⟩ = some (.int .i64 b) ∧ w'.cell? ⟨w.heap.size, 4, none⟩ = some (.int .i64 ser) ∧ w'.cell? ⟨w.heap.size, 5, none⟩ = some (.slice x l.length cap) ∧ w'.cell? ⟨w.heap.size + 1, 0, none⟩ = some (.int .i64 u) ∧ w'.cell? ⟨w.heap.size + 1, 1, none⟩ = some (.int .i64 N))
        (first | go_keep | (go_split_ands; (repeat' apply And.intro) <;> first | assumption | exact kp hb1 (by assumption) | exact kp hb2 (by assumption)) | fail)
        (first
          | (go_at_call 41; refine (C3.out _ HBd.out).mono ?_; rintro en wx ⟨rfl, hb1⟩; have HBX := Lib.hid (bd HB.out hb1); have HXX := Lib.hid ((HX2.out.dr 1).next hb1); have HYX := Lib.hid ((HY2.out.dr 1).next hb1))
          | (go_at_call 24; (with_reducible refine (C4.out _).mono ?_); rintro en wy ⟨v4, rfl, hv4, ho4, hb2⟩; have HV4 := Lib.hid hv4; have HO4 := Lib.hid ho4; obtain ⟨x4, cap4, rfl, _, _, _⟩ := hv4; clear ho4; have HBY := Lib.hid (bt HBX.out hb2); have HXY := Lib.hid (HXX.out.next hb2); have HYY := Lib.hid (HYX.out.next hb2))
          | fail)
      have hx := HXY.out
      have hR := HR.out
      clear HR k0 k1 k2 k3 k4 k5 t0 t1 HBd HBX HXX HYX hb1 hb2 hlt hlt0 hlt1 HI HX2 HY2 HT2 C3 C4
      have k0 := hx.cell 0; have k1 := hx.cell 1; have k2 := hx.cell 2; have k3 := hx.cell 3; have k4 := hx.cell 4; have k5 := hx.cell 5
      simp only [List.getElem?_cons_zero, List.getElem?_cons_succ] at k0 k1 k2 k3 k4 k5
      clear hx
      have hyy := HYY.out.lt
      by_cases c4 : E4 = 0
      · subst c4
        rw [if_pos rfl] at hR
        have HR := Lib.hid hR
        clear hR
        go_wp2_with fail
        refine (C7.out _ _ HBY.out HV4.out).mono ?_
        rintro en6 w6 ⟨v6, rfl, ho6, b6⟩
        have HB6 := Lib.hid (bt HBY.out b6)
        have HX6 := Lib.hid (HXY.out.next b6)
        have HY6 := Lib.hid (HYY.out.next b6)
        have HV6 := Lib.hid ho6.rd
        have HO6 := Lib.hid (fun b (hb : b < w.heap.size + 3) => off_own ho6 (b := b) (by omega))
        obtain ⟨x6, cap6, rfl, _, _, _⟩ := ho6.rd
        clear ho6 b6 k0 k1 k2 k3 k4 k5 hyy HXY HYY HBY C7
        have hR := HR.out
        by_cases c5 : E5 = 0
        · subst c5
          rw [if_pos rfl] at hR
          have hc6 := C6.out
          simp only [hR] at hc6
          have HC6 := Lib.hid hc6
          clear hR HR hc6 C6
          obtain ⟨⟨⟨i1, i2, i3, i4, i5⟩, M⟩, N3, E6⟩ := R
          have hx := HX6.out
          have k0 := hx.cell 0; have k1 := hx.cell 1; have k2 := hx.cell 2; have k3 := hx.cell 3; have k4 := hx.cell 4; have k5 := hx.cell 5
          simp only [List.getElem?_cons_zero, List.getElem?_cons_succ] at k0 k1 k2 k3 k4 k5
          clear hx
          go_wp2_with fail
          refine (HC6.out _ _ HB6.out HV6.out).mono ?_
          rintro en7 w7 ⟨v7, rfl, hv7, ho7, b7⟩
          have HB7 := Lib.hid (bt HB6.out b7)
          have HY7 := Lib.hid (HY6.out.next b7)
          have HO7 := Lib.hid (fun b (hb : b < w.heap.size + 3) => ho7 b (by have := HY6.out.lt; omega) (HO6.out b hb))
          have HV7 := Lib.hid hv7
          obtain ⟨x7, cap7, rfl, _, _, _⟩ := hv7
          clear b7 ho7 HX6 HY6 HB6 HV6 HO6 HC6 k0 k1 k2 k3 k4 k5
          have hy := HY7.out
          have hlt := hy.lt
          have z0 := hy.cell 0; have z1 := hy.cell 1; have z2 := hy.cell 2; have z3 := hy.cell 3; have z4 := hy.cell 4; have z5 := hy.cell 5
          simp only [List.getElem?_cons_zero, List.getElem?_cons_succ] at z0 z1 z2 z3 z4 z5
          have f0 := hy.froz 0; have f1 := hy.froz 1; have f2 := hy.froz 2; have f3 := hy.froz 3; have f4 := hy.froz 4; have f5 := hy.froz 5
          clear hy
          go_wp2
          have P := Pb.put HY7.out ⟨i1, i2, i3, i4, i5⟩ (.slice x7 M.length cap7)
          have Q := below6 HB7.out (b := w.heap.size + 2) (by omega) (.int .i64 i1) (.int .i64 i2) (.int .i64 i3) (.int .i64 i4) (.int .i64 i5) ((.slice x7 M.length cap7))
          have R := rd_put6 (b := w.heap.size + 2) HV7.out (HO7.out _ (by omega)) (.int .i64 i1) (.int .i64 i2) (.int .i64 i3) (.int .i64 i4) (.int .i64 i5) ((.slice x7 M.length cap7))
          generalize (((((w7.setCell ⟨w.heap.size + 2, 0, none⟩ (.int .i64 i1)).setCell ⟨w.heap.size + 2, 1, none⟩ (.int .i64 i2)).setCell ⟨w.heap.size + 2, 2, none⟩ (.int .i64 i3)).setCell ⟨w.heap.size + 2, 3, none⟩ (.int .i64 i4)).setCell ⟨w.heap.size + 2, 4, none⟩ (.int .i64 i5)).setCell ⟨w.heap.size + 2, 5, none⟩ ((.slice x7 M.length cap7)) = W2 at P Q R ⊢
          have y0 := P.cell 0; have y1 := P.cell 1; have y2 := P.cell 2; have y3 := P.cell 3; have y4 := P.cell 4; have y5 := P.cell 5
          simp only [List.getElem?_cons_zero, List.getElem?_cons_succ] at y0 y1 y2 y3 y4 y5
          refine bodyPost_ret (v := .tuple #[aP ⟨i1, i2, i3, i4, i5⟩ (.slice x7 M.length cap7), .int .i64 N3, .int .i64 E6]) (by simp [results, Try.results20, go_sem, y0, y1, y2, y3, y4, y5]) rfl ⟨_, rfl, R, fun b hb _ => HO7.out b (by omega), Q⟩
        · rw [if_neg c5] at hR
          subst hR
          have hz : (E5 == 0) = false := by simpa using c5
          have hy := HY6.out
          have hlt := hy.lt
          have z0 := hy.cell 0; have z1 := hy.cell 1; have z2 := hy.cell 2; have z3 := hy.cell 3; have z4 := hy.cell 4; have z5 := hy.cell 5
          simp only [List.getElem?_cons_zero, List.getElem?_cons_succ] at z0 z1 z2 z3 z4 z5
          have f0 := hy.froz 0; have f1 := hy.froz 1; have f2 := hy.froz 2; have f3 := hy.froz 3; have f4 := hy.froz 4; have f5 := hy.froz 5
          clear hy HR C6
          go_wp2
          have P := Pb.put HY6.out ⟨0, 0, 0, 0, 0⟩ (.slice none 0 0)
          have Q := below6 HB6.out (b := w.heap.size + 2) (by omega) (.int .i64 0) (.int .i64 0) (.int .i64 0) (.int .i64 0) (.int .i64 0) ((.slice none 0 0))
          generalize (((((w6.setCell ⟨w.heap.size + 2, 0, none⟩ (.int .i64 0)).setCell ⟨w.heap.size + 2, 1, none⟩ (.int .i64 0)).setCell ⟨w.heap.size + 2, 2, none⟩ (.int .i64 0)).setCell ⟨w.heap.size + 2, 3, none⟩ (.int .i64 0)).setCell ⟨w.heap.size + 2, 4, none⟩ (.int .i64 0)).setCell ⟨w.heap.size + 2, 5, none⟩ ((.slice none 0 0)) = W2 at P Q ⊢
          have y0 := P.cell 0; have y1 := P.cell 1; have y2 := P.cell 2; have y3 := P.cell 3; have y4 := P.cell 4; have y5 := P.cell 5
          simp only [List.getElem?_cons_zero, List.getElem?_cons_succ] at y0 y1 y2 y3 y4 y5
          refine bodyPost_ret (v := .tuple #[aP ⟨0, 0, 0, 0, 0⟩ (.slice none 0 0), .int .i64 0, .int .i64 E5]) (by simp [results, Try.results20, go_sem, y0, y1, y2, y3, y4, y5]) rfl ⟨_, rfl, rd_nil _, fun _ _ _ => off_nil _, Q⟩
      · rw [if_neg c4] at hR
        subst hR
        have hz : (E4 == 0) = false := by simpa using c4
        have hy := HYY.out
        have z0 := hy.cell 0; have z1 := hy.cell 1; have z2 := hy.cell 2; have z3 := hy.cell 3; have z4 := hy.cell 4; have z5 := hy.cell 5
        simp only [List.getElem?_cons_zero, List.getElem?_cons_succ] at z0 z1 z2 z3 z4 z5
        have f0 := hy.froz 0; have f1 := hy.froz 1; have f2 := hy.froz 2; have f3 := hy.froz 3; have f4 := hy.froz 4; have f5 := hy.froz 5
        clear hy C6 C7
        go_wp2
        have P := Pb.put HYY.out ⟨0, 0, 0, 0, 0⟩ (.slice none 0 0)
        have Q := below6 HBY.out (b := w.heap.size + 2) (by omega) (.int .i64 0) (.int .i64 0) (.int .i64 0) (.int .i64 0) (.int .i64 0) ((.slice none 0 0))
        generalize (((((wy.setCell ⟨w.heap.size + 2, 0, none⟩ (.int .i64 0)).setCell ⟨w.heap.size + 2, 1, none⟩ (.int .i64 0)).setCell ⟨w.heap.size + 2, 2, none⟩ (.int .i64 0)).setCell ⟨w.heap.size + 2, 3, none⟩ (.int .i64 0)).setCell ⟨w.heap.size + 2, 4, none⟩ (.int .i64 0)).setCell ⟨w.heap.size + 2, 5, none⟩ ((.slice none 0 0)) = W2 at P Q ⊢
        have y0 := P.cell 0; have y1 := P.cell 1; have y2 := P.cell 2; have y3 := P.cell 3; have y4 := P.cell 4; have y5 := P.cell 5
        simp only [List.getElem?_cons_zero, List.getElem?_cons_succ] at y0 y1 y2 y3 y4 y5
        refine bodyPost_ret (v := .tuple #[aP ⟨0, 0, 0, 0, 0⟩ (.slice none 0 0), .int .i64 0, .int .i64 E4]) (by simp [results, Try.results20, go_sem, y0, y1, y2, y3, y4, y5]) rfl ⟨_, rfl, rd_nil _, fun _ _ _ => off_nil _, Q⟩

  · rw [if_neg c]
    have hz : (E == 0) = false := by simpa using c
    clear C6 C3 C4 C7
    go_enter Try.func20, Try.ntmps20
    go_wp2_with fail
    refine (C1.out _ (by first | exact HA.out | exact bn HA.out _)).mono ?_
    rintro en w2 ⟨rfl, b2⟩
    have HB := Lib.hid (bt HA.out b2)
    have hx := HX.out.next b2
    have hy := HY.out.next b2
    have ht := HT.out.next b2
    have hlt := hy.lt
    have hlt0 := hx.lt
    have hlt1 := ht.lt
    have z0 := hy.cell 0; have z1 := hy.cell 1; have z2 := hy.cell 2; have z3 := hy.cell 3; have z4 := hy.cell 4; have z5 := hy.cell 5
    simp only [List.getElem?_cons_zero, List.getElem?_cons_succ] at z0 z1 z2 z3 z4 z5
    have f0 := hy.froz 0; have f1 := hy.froz 1; have f2 := hy.froz 2; have f3 := hy.froz 3; have f4 := hy.froz 4; have f5 := hy.froz 5
    have HX2 := Lib.hid hx; have HY2 := Lib.hid hy; have HT2 := Lib.hid ht
    clear b2 hx hy ht HX HA HY HT C1
    go_wp2
    have P := Pb.put HY2.out ⟨0, 0, 0, 0, 0⟩ (.slice none 0 0)
    have Q := below6 HB.out (b := w.heap.size + 2) (by omega) (.int .i64 0) (.int .i64 0) (.int .i64 0) (.int .i64 0) (.int .i64 0) ((.slice none 0 0))
    generalize (((((w2.setCell ⟨w.heap.size + 2, 0, none⟩ (.int .i64 0)).setCell ⟨w.heap.size + 2, 1, none⟩ (.int .i64 0)).setCell ⟨w.heap.size + 2, 2, none⟩ (.int .i64 0)).setCell ⟨w.heap.size + 2, 3, none⟩ (.int .i64 0)).setCell ⟨w.heap.size + 2, 4, none⟩ (.int .i64 0)).setCell ⟨w.heap.size + 2, 5, none⟩ ((.slice none 0 0)) = W2 at P Q ⊢
    have y0 := P.cell 0; have y1 := P.cell 1; have y2 := P.cell 2; have y3 := P.cell 3; have y4 := P.cell 4; have y5 := P.cell 5
    simp only [List.getElem?_cons_zero, List.getElem?_cons_succ] at y0 y1 y2 y3 y4 y5
    refine bodyPost_ret (v := .tuple #[aP ⟨0, 0, 0, 0, 0⟩ (.slice none 0 0), .int .i64 0, .int .i64 E]) (by simp [results, Try.results20, go_sem, y0, y1, y2, y3, y4, y5]) rfl ⟨_, rfl, rd_nil _, fun _ _ _ => off_nil _, Q⟩
end Pa
end Go.Proofs.Ytcgncmlldjblmaa
