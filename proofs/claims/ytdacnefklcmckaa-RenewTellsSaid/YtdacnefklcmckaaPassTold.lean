/- Passes: those that answer a pass. (gen_pass2.py) -/
import Derived.Test.YtdacnefklcmckaaPassCheck2
set_option linter.unusedSimpArgs false
set_option linter.unusedVariables false
namespace Go.Proofs.Ytdacnefklcmckaa
open Go.RowKit
namespace Pa
open Dt Sn
/-- a slice that does not lie in this block -/
def Off (v : Value) (b : Nat) : Prop := ∀ a n c, v = .slice (some a) n c → 0 < n → a.block ≠ b
theorem off_nil (b : Nat) : Off (.slice none 0 0) b := fun a n c h => by cases h
abbrev PassQ (d : Value) (p : Ps) (l : List Sp) (er : Int) (w : World) (e : Ending) (w' : World) : Prop := ∃ v, e = .returned (.tuple #[aP p v, .int .i64 er]) ∧ RdE elS w' v l ∧ (∀ b, b < w.heap.size → Off d b → Off v b) ∧ Below w.heap.size w w'
abbrev PassNQ (d : Value) (p : Ps) (l : List Sp) (n er : Int) (w : World) (e : Ending) (w' : World) : Prop := ∃ v, e = .returned (.tuple #[aP p v, .int .i64 n, .int .i64 er]) ∧ RdE elS w' v l ∧ (∀ b, b < w.heap.size → Off d b → Off v b) ∧ Below w.heap.size w w'
theorem off_own {w : World} {B : Nat} {v : Value} {l : List Sp} (h : ROwn elS w B v l) {b : Nat} (hb : b < B) : Off v b := fun a n c hk _ he => by subst hk; have := (h.lt a.block rfl).1; omega
theorem off_rd {w : World} {v : Value} {l : List Sp} (h : RdE elS w v l) {b : Nat} (hb : w.heap.size ≤ b) : Off v b := fun a n c hk hn he => by
  obtain ⟨a', cap, rfl, h1, h2, h3⟩ := h
  cases hk
  obtain ⟨g, off, e, hlt, _⟩ := h3 hn
  cases e
  simp only at he
  omega
theorem rd_put {w : World} {v : Value} {l : List Sp} {b : Nat} (h : RdE elS w v l) (ho : Off v b) (j : Nat) (u : Value) : RdE elS (w.setCell ⟨b, j, none⟩ u) v l := by
  obtain ⟨a, cap, rfl, h1, h2, h3⟩ := h
  refine ⟨a, cap, rfl, h1, h2, fun hn => ?_⟩
  obtain ⟨g, off, rfl, hlt, hc⟩ := h3 hn
  have hne : g ≠ b := ho _ _ _ rfl hn
  refine ⟨g, off, rfl, by simpa using hlt, fun i hi j' u' hu => ?_⟩
  rw [← hc i hi j' u' hu]
  have := Below.heap_setCell w ⟨b, j, none⟩ u g hne
  simp only [World.cell?, this]
theorem rd_put6 {w : World} {v : Value} {l : List Sp} {b : Nat} (h : RdE elS w v l) (ho : Off v b) (v0 v1 v2 v3 v4 v5 : Value) :
    RdE elS ((((((w.setCell ⟨b, 0, none⟩ v0).setCell ⟨b, 1, none⟩ v1).setCell ⟨b, 2, none⟩ v2).setCell ⟨b, 3, none⟩ v3).setCell ⟨b, 4, none⟩ v4).setCell ⟨b, 5, none⟩ v5) v l :=
  rd_put (rd_put (rd_put (rd_put (rd_put (rd_put h ho _ _) ho _ _) ho _ _) ho _ _) ho _ _) ho _ _
@[reducible] def p0 : Ps := ⟨0, 0, 0, 0, 0⟩
theorem rd_nil (w : World) : RdE elS w (.slice none 0 0) [] := ⟨none, 0, rfl, Nat.le_refl _, Nat.zero_le _, fun h => by simp at h⟩
/-- a struct's box of a pass -/
abbrev Pb (w : World) (b : Nat) (p : Ps) (d : Value) : Prop := Box w b 24 [.int .i64 p.id, .int .i64 p.born, .int .i64 p.a, .int .i64 p.b, .int .i64 p.ser, d]
theorem Pb.put {w : World} {b : Nat} {c0 c1 c2 c3 c4 c5 : Value} (h : Box w b 24 [c0, c1, c2, c3, c4, c5]) (q : Ps) (v : Value) :
    Pb ((((((w.setCell ⟨b, 0, none⟩ (.int .i64 q.id)).setCell ⟨b, 1, none⟩ (.int .i64 q.born)).setCell ⟨b, 2, none⟩ (.int .i64 q.a)).setCell ⟨b, 3, none⟩ (.int .i64 q.b)).setCell ⟨b, 4, none⟩ (.int .i64 q.ser)).setCell ⟨b, 5, none⟩ v) b q v :=
  (((((h.set 0 _).set 1 _).set 2 _).set 3 _).set 4 _).set 5 _
theorem below6 {B : Nat} {w w' : World} {b : Nat} (h : Below B w w') (hb : B ≤ b) (v0 v1 v2 v3 v4 v5 : Value) :
    Below B w ((((((w'.setCell ⟨b, 0, none⟩ v0).setCell ⟨b, 1, none⟩ v1).setCell ⟨b, 2, none⟩ v2).setCell ⟨b, 3, none⟩ v3).setCell ⟨b, 4, none⟩ v4).setCell ⟨b, 5, none⟩ v5) :=
  (((((h.setCell hb v0).setCell hb v1).setCell hb v2).setCell hb v3).setCell hb v4).setCell hb v5

theorem Bx.others {w : World} {b b' : Nat} {t : TypeId} {cs : List Value} (h : Box w b t cs) (hne : b ≠ b') (v0 v1 v2 v3 v4 v5 : Value) :
    Box ((((((w.setCell ⟨b', 0, none⟩ v0).setCell ⟨b', 1, none⟩ v1).setCell ⟨b', 2, none⟩ v2).setCell ⟨b', 3, none⟩ v3).setCell ⟨b', 4, none⟩ v4).setCell ⟨b', 5, none⟩ v5) b t cs :=
  (((((h.other b' 0 v0 hne).other b' 1 v1 hne).other b' 2 v2 hne).other b' 3 v3 hne).other b' 4 v4 hne).other b' 5 v5 hne

set_option maxRecDepth 100000 in
set_option maxHeartbeats 4000000 in
theorem told_any (p : Ps) (d : Value) (l : List Sp) (w : World) (h : RdE elS w d l) : Calls Try.prog 25 #[aP p d] w (PassQ d (if passE p l = 0 then p else p0) (if passE p l = 0 then l else []) (passE p l) w) := by
  have hq := check_any p d l
  obtain ⟨id, born, a, b, ser⟩ := p
  have HV := Lib.hid h
  obtain ⟨x, cap, rfl, h1, h2, h3⟩ := h
  clear h3
  have HA := Lib.hid (((br w).alloc (Nat.le_refl _) (.cells #[.int .i64 id, .int .i64 born, .int .i64 a, .int .i64 b, .int .i64 ser, .slice x l.length cap] 24)).alloc (by simp) (.cells #[.int .i64 0, .int .i64 0, .int .i64 0, .int .i64 0, .int .i64 0, .slice none 0 0] 24))
  have hx : Pb (w.alloc (.cells #[.int .i64 id, .int .i64 born, .int .i64 a, .int .i64 b, .int .i64 ser, .slice x l.length cap] 24)) w.heap.size ⟨id, born, a, b, ser⟩ (.slice x l.length cap) := Box.new w _ _
  have HX := Lib.hid (Box.alloc hx (.cells #[.int .i64 0, .int .i64 0, .int .i64 0, .int .i64 0, .int .i64 0, .slice none 0 0] 24))
  have hy : Pb ((w.alloc (.cells #[.int .i64 id, .int .i64 born, .int .i64 a, .int .i64 b, .int .i64 ser, .slice x l.length cap] 24)).alloc (.cells #[.int .i64 0, .int .i64 0, .int .i64 0, .int .i64 0, .int .i64 0, .slice none 0 0] 24)) (w.alloc (.cells #[.int .i64 id, .int .i64 born, .int .i64 a, .int .i64 b, .int .i64 ser, .slice x l.length cap] 24)).heap.size ⟨0, 0, 0, 0, 0⟩ (.slice none 0 0) := Box.new _ _ _
  rw [asz] at hy
  have HY := Lib.hid hy
  clear hy hx
  have CK := Lib.hid (fun w' (hb : Below w.heap.size w w') => hq w' (HV.out.below hb))
  clear hq
  obtain ⟨E, hE⟩ : ∃ E, passE ⟨id, born, a, b, ser⟩ l = E := ⟨_, rfl⟩
  rw [hE] at CK ⊢
  clear hE
  by_cases c : E = 0
  · subst c
    rw [if_pos rfl, if_pos rfl]
    go_enter Try.func25, Try.ntmps25
    go_wp2_with fail
    refine (CK.out _ (by first | exact HA.out | exact bn HA.out _)).mono ?_
    rintro en w2 ⟨rfl, b2⟩
    have HB := Lib.hid (bt HA.out b2)
    have hx := HX.out.next b2
    have hy := HY.out.next b2
    have hlt := hy.lt
    have k0 := hx.cell 0; have k1 := hx.cell 1; have k2 := hx.cell 2; have k3 := hx.cell 3; have k4 := hx.cell 4; have k5 := hx.cell 5
    simp only [List.getElem?_cons_zero, List.getElem?_cons_succ] at k0 k1 k2 k3 k4 k5
    have z0 := hy.cell 0; have z1 := hy.cell 1; have z2 := hy.cell 2; have z3 := hy.cell 3; have z4 := hy.cell 4; have z5 := hy.cell 5
    simp only [List.getElem?_cons_zero, List.getElem?_cons_succ] at z0 z1 z2 z3 z4 z5
    have f0 := hy.froz 0; have f1 := hy.froz 1; have f2 := hy.froz 2; have f3 := hy.froz 3; have f4 := hy.froz 4; have f5 := hy.froz 5
    clear b2 hx
    have HY2 := Lib.hid hy
    clear hy CK HA HX HY
    go_wp2
    have P := Pb.put HY2.out ⟨id, born, a, b, ser⟩ (.slice x l.length cap)
    have Q := below6 HB.out (b := w.heap.size + 1) (by omega) (.int .i64 id) (.int .i64 born) (.int .i64 a) (.int .i64 b) (.int .i64 ser) ((.slice x l.length cap))
    generalize (((((w2.setCell ⟨w.heap.size + 1, 0, none⟩ (.int .i64 id)).setCell ⟨w.heap.size + 1, 1, none⟩ (.int .i64 born)).setCell ⟨w.heap.size + 1, 2, none⟩ (.int .i64 a)).setCell ⟨w.heap.size + 1, 3, none⟩ (.int .i64 b)).setCell ⟨w.heap.size + 1, 4, none⟩ (.int .i64 ser)).setCell ⟨w.heap.size + 1, 5, none⟩ ((.slice x l.length cap)) = W2 at P Q ⊢
    have y0 := P.cell 0; have y1 := P.cell 1; have y2 := P.cell 2; have y3 := P.cell 3; have y4 := P.cell 4; have y5 := P.cell 5
    simp only [List.getElem?_cons_zero, List.getElem?_cons_succ] at y0 y1 y2 y3 y4 y5
    refine bodyPost_ret (v := .tuple #[aP ⟨id, born, a, b, ser⟩ (.slice x l.length cap), .int .i64 0]) (by simp [results, Try.results25, go_sem, y0, y1, y2, y3, y4, y5]) rfl ⟨_, rfl, HV.out.below Q, fun _ _ h => h, Q⟩
  · rw [if_neg c, if_neg c]
    have hz : (E == 0) = false := by simpa using c
    go_enter Try.func25, Try.ntmps25
    go_wp2_with fail
    refine (CK.out _ (by first | exact HA.out | exact bn HA.out _)).mono ?_
    rintro en w2 ⟨rfl, b2⟩
    have HB := Lib.hid (bt HA.out b2)
    have hy := HY.out.next b2
    have hlt := hy.lt
    have z0 := hy.cell 0; have z1 := hy.cell 1; have z2 := hy.cell 2; have z3 := hy.cell 3; have z4 := hy.cell 4; have z5 := hy.cell 5
    simp only [List.getElem?_cons_zero, List.getElem?_cons_succ] at z0 z1 z2 z3 z4 z5
    have f0 := hy.froz 0; have f1 := hy.froz 1; have f2 := hy.froz 2; have f3 := hy.froz 3; have f4 := hy.froz 4; have f5 := hy.froz 5
    clear b2
    have HY2 := Lib.hid hy
    clear hy CK HA HX HY
    go_wp2
    have P := Pb.put HY2.out ⟨0, 0, 0, 0, 0⟩ (.slice none 0 0)
    have Q := below6 HB.out (b := w.heap.size + 1) (by omega) (.int .i64 0) (.int .i64 0) (.int .i64 0) (.int .i64 0) (.int .i64 0) ((.slice none 0 0))
    generalize (((((w2.setCell ⟨w.heap.size + 1, 0, none⟩ (.int .i64 0)).setCell ⟨w.heap.size + 1, 1, none⟩ (.int .i64 0)).setCell ⟨w.heap.size + 1, 2, none⟩ (.int .i64 0)).setCell ⟨w.heap.size + 1, 3, none⟩ (.int .i64 0)).setCell ⟨w.heap.size + 1, 4, none⟩ (.int .i64 0)).setCell ⟨w.heap.size + 1, 5, none⟩ ((.slice none 0 0)) = W2 at P Q ⊢
    have y0 := P.cell 0; have y1 := P.cell 1; have y2 := P.cell 2; have y3 := P.cell 3; have y4 := P.cell 4; have y5 := P.cell 5
    simp only [List.getElem?_cons_zero, List.getElem?_cons_succ] at y0 y1 y2 y3 y4 y5
    refine bodyPost_ret (v := .tuple #[aP ⟨0, 0, 0, 0, 0⟩ (.slice none 0 0), .int .i64 E]) (by simp [results, Try.results25, go_sem, y0, y1, y2, y3, y4, y5]) rfl ⟨_, rfl, rd_nil _, fun _ _ _ => off_nil _, Q⟩
end Pa
end Go.Proofs.Ytdacnefklcmckaa
