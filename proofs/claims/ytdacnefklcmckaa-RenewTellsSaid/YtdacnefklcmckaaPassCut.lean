/- Passes: a pass that is replaced, or cut. (gen_pass3.py) -/
import Derived.Test.YtdacnefklcmckaaPassOwn
import Derived.Test.YtdacnefklcmckaaPassWith
set_option linter.unusedSimpArgs false
set_option linter.unusedVariables false
namespace Go.Proofs.Ytdacnefklcmckaa
open Go.RowKit
namespace Pa
open Dt Sn
def repE (p : Ps) (l : List Sp) : Int := if passE p l = 0 then (if p.ser = 999 then 2 else 0) else passE p l
abbrev repP (p : Ps) : Ps := ⟨p.id, p.born, p.a, p.b, p.ser + 1⟩
set_option maxRecDepth 100000 in
set_option maxHeartbeats 500000 in
theorem replace_any (p : Ps) (d : Value) (l : List Sp) (w : World) (h : RdE elS w d l) : Calls Try.prog 10 #[aP p d] w (PassQ (.slice none 0 0) (if repE p l = 0 then repP p else p0) (if repE p l = 0 then l else []) (repE p l) w) := by
  have C1 := Lib.hid (fun w' (hb : Below w.heap.size w w') => check_any p d l w' (h.below hb))
  have C2 := Lib.hid (fun (hl : l.length ≤ 1000) w' (hb : Below w.heap.size w w') => own_any p d l w' (h.below hb) hl)
  have HE := Lib.hid (fun (hz : passE p l = 0) => passE_ok.1 hz)
  unfold repE
  obtain ⟨E, hE⟩ : ∃ E, passE p l = E := ⟨_, rfl⟩
  rw [hE] at C1 HE ⊢
  clear hE
  obtain ⟨id, born, a, b, ser⟩ := p
  obtain ⟨x, cap, rfl, _, _, _⟩ := h
  simp only [repP]
  have HA := Lib.hid (((br w).alloc (Nat.le_refl _) (.cells #[.int .i64 id, .int .i64 born, .int .i64 a, .int .i64 b, .int .i64 ser, .slice x l.length cap] 24)).alloc (by simp) (.cells #[.int .i64 0, .int .i64 0, .int .i64 0, .int .i64 0, .int .i64 0, .slice none 0 0] 24))
  have hx : Pb (w.alloc (.cells #[.int .i64 id, .int .i64 born, .int .i64 a, .int .i64 b, .int .i64 ser, .slice x l.length cap] 24)) w.heap.size ⟨id, born, a, b, ser⟩ (.slice x l.length cap) := Box.new w _ _
  have HX := Lib.hid (Box.alloc hx (.cells #[.int .i64 0, .int .i64 0, .int .i64 0, .int .i64 0, .int .i64 0, .slice none 0 0] 24))
  have hy : Pb ((w.alloc (.cells #[.int .i64 id, .int .i64 born, .int .i64 a, .int .i64 b, .int .i64 ser, .slice x l.length cap] 24)).alloc (.cells #[.int .i64 0, .int .i64 0, .int .i64 0, .int .i64 0, .int .i64 0, .slice none 0 0] 24)) (w.alloc (.cells #[.int .i64 id, .int .i64 born, .int .i64 a, .int .i64 b, .int .i64 ser, .slice x l.length cap] 24)).heap.size ⟨0, 0, 0, 0, 0⟩ (.slice none 0 0) := Box.new _ _ _
  rw [asz] at hy
  have HY := Lib.hid hy
  clear hy hx
  by_cases c : E = 0
  · subst c
    obtain ⟨⟨_, _, _, _, _, _, s1, s2⟩, hk, _⟩ := HE.out rfl
    simp only at s1 s2
    have hlen := ((chkS_ok l).1 hk).1
    have HC2 := Lib.hid (C2.out (by omega))
    clear hk C2
    rw [if_pos (show (0 : Int) = 0 from rfl)]
    by_cases c9 : ser = 999
    · subst c9
      rw [if_pos rfl, if_neg (by decide), if_neg (by decide)]
      go_enter Try.func10, Try.ntmps10
      go_wp2_with fail
      refine (C1.out _ (by first | exact HA.out | exact bn HA.out _)).mono ?_
      rintro en w2 ⟨rfl, b2⟩
      have HB := Lib.hid (bt HA.out b2)
      have hx := HX.out.next b2
      have hy := HY.out.next b2
      have hlt := hy.lt
      have hlt0 := hx.lt
      have k0 := hx.cell 0; have k1 := hx.cell 1; have k2 := hx.cell 2; have k3 := hx.cell 3; have k4 := hx.cell 4; have k5 := hx.cell 5
      simp only [List.getElem?_cons_zero, List.getElem?_cons_succ] at k0 k1 k2 k3 k4 k5
      have z0 := hy.cell 0; have z1 := hy.cell 1; have z2 := hy.cell 2; have z3 := hy.cell 3; have z4 := hy.cell 4; have z5 := hy.cell 5
      simp only [List.getElem?_cons_zero, List.getElem?_cons_succ] at z0 z1 z2 z3 z4 z5
      have f0 := hy.froz 0; have f1 := hy.froz 1; have f2 := hy.froz 2; have f3 := hy.froz 3; have f4 := hy.froz 4; have f5 := hy.froz 5
      have HY2 := Lib.hid hy
      clear b2 hx hy HX HA HY C1 HC2
      go_wp2
      have P := Pb.put HY2.out ⟨0, 0, 0, 0, 0⟩ (.slice none 0 0)
      have Q := below6 HB.out (b := w.heap.size + 1) (by omega) (.int .i64 0) (.int .i64 0) (.int .i64 0) (.int .i64 0) (.int .i64 0) ((.slice none 0 0))
      generalize (((((w2.setCell ⟨w.heap.size + 1, 0, none⟩ (.int .i64 0)).setCell ⟨w.heap.size + 1, 1, none⟩ (.int .i64 0)).setCell ⟨w.heap.size + 1, 2, none⟩ (.int .i64 0)).setCell ⟨w.heap.size + 1, 3, none⟩ (.int .i64 0)).setCell ⟨w.heap.size + 1, 4, none⟩ (.int .i64 0)).setCell ⟨w.heap.size + 1, 5, none⟩ ((.slice none 0 0)) = W2 at P Q ⊢
      have y0 := P.cell 0; have y1 := P.cell 1; have y2 := P.cell 2; have y3 := P.cell 3; have y4 := P.cell 4; have y5 := P.cell 5
      simp only [List.getElem?_cons_zero, List.getElem?_cons_succ] at y0 y1 y2 y3 y4 y5
      refine bodyPost_ret (v := .tuple #[aP ⟨0, 0, 0, 0, 0⟩ (.slice none 0 0), .int .i64 2]) (by simp [results, Try.results10, go_sem, y0, y1, y2, y3, y4, y5]) rfl ⟨_, rfl, rd_nil _, fun _ _ _ => off_nil _, Q⟩
    · rw [if_neg c9, if_pos rfl, if_pos rfl]
      have h9 : (ser == 999) = false := by simpa using c9
      go_enter Try.func10, Try.ntmps10
      go_wp2_with fail
      refine (C1.out _ (by first | exact HA.out | exact bn HA.out _)).mono ?_
      rintro en w2 ⟨rfl, b2⟩
      have HB := Lib.hid (bt HA.out b2)
      have hx := HX.out.next b2
      have hy := HY.out.next b2
      have hlt := hy.lt
      have hlt0 := hx.lt
      have k0 := hx.cell 0; have k1 := hx.cell 1; have k2 := hx.cell 2; have k3 := hx.cell 3; have k4 := hx.cell 4; have k5 := hx.cell 5
      simp only [List.getElem?_cons_zero, List.getElem?_cons_succ] at k0 k1 k2 k3 k4 k5
      have HY2 := Lib.hid hy
      have HX2 := Lib.hid hx
      clear b2 hx hy HX HA HY C1
      go_wp2_with fail
      refine (HC2.out _ HB.out).mono ?_
      rintro en w3 ⟨v3, rfl, hv3, ho3, b3⟩
      have HO3 := Lib.hid (fun b (hb : b < w.heap.size + 2) => ho3 b (by omega))
      have HB3 := Lib.hid (bt HB.out b3)
      have hx := HX2.out.next b3
      have hy := HY2.out.next b3
      have hlt1 := hy.lt
      have HV3 := Lib.hid hv3
      obtain ⟨x3, cap3, rfl, _, _, _⟩ := hv3
      clear ho3 k0 k1 k2 k3 k4 k5
      have k0 := hx.cell 0; have k1 := hx.cell 1; have k2 := hx.cell 2; have k3 := hx.cell 3; have k4 := hx.cell 4; have k5 := hx.cell 5
      simp only [List.getElem?_cons_zero, List.getElem?_cons_succ] at k0 k1 k2 k3 k4 k5
      have f0 := hx.froz 0; have f1 := hx.froz 1; have f2 := hx.froz 2; have f3 := hx.froz 3; have f4 := hx.froz 4; have f5 := hx.froz 5
      have HX4 := Lib.hid (Pb.put hx ⟨id, born, a, b, ser⟩ (.slice x3 l.length cap3))
      have HB4 := Lib.hid (below6 HB3.out (b := w.heap.size) (by omega) (.int .i64 id) (.int .i64 born) (.int .i64 a) (.int .i64 b) (.int .i64 ser) ((.slice x3 l.length cap3)))
      have HV4 := Lib.hid (rd_put6 (b := w.heap.size) HV3.out (HO3.out _ (by omega)) (.int .i64 id) (.int .i64 born) (.int .i64 a) (.int .i64 b) (.int .i64 ser) ((.slice x3 l.length cap3)))
      have HY4 := Lib.hid (Bx.others (b' := w.heap.size) hy (by omega) (.int .i64 id) (.int .i64 born) (.int .i64 a) (.int .i64 b) (.int .i64 ser) ((.slice x3 l.length cap3)))
      clear b3 hx hy HX2 HY2 HB3 HV3 HC2
      go_upto_region 7 with (fail)
      generalize (((((w3.setCell ⟨w.heap.size, 0, none⟩ (.int .i64 id)).setCell ⟨w.heap.size, 1, none⟩ (.int .i64 born)).setCell ⟨w.heap.size, 2, none⟩ (.int .i64 a)).setCell ⟨w.heap.size, 3, none⟩ (.int .i64 b)).setCell ⟨w.heap.size, 4, none⟩ (.int .i64 ser)).setCell ⟨w.heap.size, 5, none⟩ ((.slice x3 l.length cap3)) = W4 at HX4 HB4 HV4 HY4 ⊢
      clear k0 k1 k2 k3 k4 k5 f0 f1 f2 f3 f4 f5
      have hx := HX4.out
      have hy := HY4.out
      have hlt2 := hy.lt
      have hlt3 := hx.lt
      try simp only at hx
      have k0 := hx.cell 0; have k1 := hx.cell 1; have k2 := hx.cell 2; have k3 := hx.cell 3; have k4 := hx.cell 4; have k5 := hx.cell 5
      simp only [List.getElem?_cons_zero, List.getElem?_cons_succ] at k0 k1 k2 k3 k4 k5
      have f0 := hx.froz 0; have f1 := hx.froz 1; have f2 := hx.froz 2; have f3 := hx.froz 3; have f4 := hx.froz 4; have f5 := hx.froz 5
      have HX5 := Lib.hid (hx.set 4 (.int .i64 (ser + 1)))
      have HB5 := Lib.hid (HB4.out.setCell (p := ⟨w.heap.size, 4, none⟩) (Nat.le_refl _) (.int .i64 (ser + 1)))
      have HV5 := Lib.hid (rd_put (b := w.heap.size) HV4.out (HO3.out _ (by omega)) 4 (.int .i64 (ser + 1)))
      have HY5 := Lib.hid (hy.other w.heap.size 4 (.int .i64 (ser + 1)) (by omega))
      clear hx hy HX4 HB4 HV4 HY4
      go_upto_region 8 with (fail)
      generalize W4.setCell ⟨w.heap.size, 4, none⟩ (.int .i64 (ser + 1)) = W5 at HX5 HB5 HV5 HY5 ⊢
      clear k0 k1 k2 k3 k4 k5 f0 f1 f2 f3 f4 f5 hlt2 hlt3
      have hx := HX5.out
      have hy := HY5.out
      have hlt2 := hy.lt
      simp only [List.set_cons_zero, List.set_cons_succ] at hx
      have k0 := hx.cell 0; have k1 := hx.cell 1; have k2 := hx.cell 2; have k3 := hx.cell 3; have k4 := hx.cell 4; have k5 := hx.cell 5
      simp only [List.getElem?_cons_zero, List.getElem?_cons_succ] at k0 k1 k2 k3 k4 k5
      have z0 := hy.cell 0; have z1 := hy.cell 1; have z2 := hy.cell 2; have z3 := hy.cell 3; have z4 := hy.cell 4; have z5 := hy.cell 5
      simp only [List.getElem?_cons_zero, List.getElem?_cons_succ] at z0 z1 z2 z3 z4 z5
      have f0 := hy.froz 0; have f1 := hy.froz 1; have f2 := hy.froz 2; have f3 := hy.froz 3; have f4 := hy.froz 4; have f5 := hy.froz 5
      clear hx hy HX5
      go_wp2
      have P := Pb.put HY5.out ⟨id, born, a, b, ser + 1⟩ (.slice x3 l.length cap3)
      have Q := below6 HB5.out (b := w.heap.size + 1) (by omega) (.int .i64 id) (.int .i64 born) (.int .i64 a) (.int .i64 b) (.int .i64 (ser + 1)) ((.slice x3 l.length cap3))
      have R := rd_put6 (b := w.heap.size + 1) HV5.out (HO3.out _ (by omega)) (.int .i64 id) (.int .i64 born) (.int .i64 a) (.int .i64 b) (.int .i64 (ser + 1)) ((.slice x3 l.length cap3))
      generalize (((((W5.setCell ⟨w.heap.size + 1, 0, none⟩ (.int .i64 id)).setCell ⟨w.heap.size + 1, 1, none⟩ (.int .i64 born)).setCell ⟨w.heap.size + 1, 2, none⟩ (.int .i64 a)).setCell ⟨w.heap.size + 1, 3, none⟩ (.int .i64 b)).setCell ⟨w.heap.size + 1, 4, none⟩ (.int .i64 (ser + 1))).setCell ⟨w.heap.size + 1, 5, none⟩ ((.slice x3 l.length cap3)) = W2 at P Q R ⊢
      have y0 := P.cell 0; have y1 := P.cell 1; have y2 := P.cell 2; have y3 := P.cell 3; have y4 := P.cell 4; have y5 := P.cell 5
      simp only [List.getElem?_cons_zero, List.getElem?_cons_succ] at y0 y1 y2 y3 y4 y5
      refine bodyPost_ret (v := .tuple #[aP ⟨id, born, a, b, ser + 1⟩ (.slice x3 l.length cap3), .int .i64 0]) (by simp [results, Try.results10, go_sem, y0, y1, y2, y3, y4, y5]) rfl ⟨_, rfl, R, fun b hb _ => HO3.out b (by omega), Q⟩
  · rw [if_neg c, if_neg c, if_neg c]
    have hz : (E == 0) = false := by simpa using c
    go_enter Try.func10, Try.ntmps10
    go_wp2_with fail
    refine (C1.out _ (by first | exact HA.out | exact bn HA.out _)).mono ?_
    rintro en w2 ⟨rfl, b2⟩
    have HB := Lib.hid (bt HA.out b2)
    have hx := HX.out.next b2
    have hy := HY.out.next b2
    have hlt := hy.lt
    have hlt0 := hx.lt
    have k0 := hx.cell 0; have k1 := hx.cell 1; have k2 := hx.cell 2; have k3 := hx.cell 3; have k4 := hx.cell 4; have k5 := hx.cell 5
    simp only [List.getElem?_cons_zero, List.getElem?_cons_succ] at k0 k1 k2 k3 k4 k5
    have z0 := hy.cell 0; have z1 := hy.cell 1; have z2 := hy.cell 2; have z3 := hy.cell 3; have z4 := hy.cell 4; have z5 := hy.cell 5
    simp only [List.getElem?_cons_zero, List.getElem?_cons_succ] at z0 z1 z2 z3 z4 z5
    have f0 := hy.froz 0; have f1 := hy.froz 1; have f2 := hy.froz 2; have f3 := hy.froz 3; have f4 := hy.froz 4; have f5 := hy.froz 5
    have HY2 := Lib.hid hy
    clear b2 hx hy HX HA HY C1 C2
    go_wp2
    have P := Pb.put HY2.out ⟨0, 0, 0, 0, 0⟩ (.slice none 0 0)
    have Q := below6 HB.out (b := w.heap.size + 1) (by omega) (.int .i64 0) (.int .i64 0) (.int .i64 0) (.int .i64 0) (.int .i64 0) ((.slice none 0 0))
    generalize (((((w2.setCell ⟨w.heap.size + 1, 0, none⟩ (.int .i64 0)).setCell ⟨w.heap.size + 1, 1, none⟩ (.int .i64 0)).setCell ⟨w.heap.size + 1, 2, none⟩ (.int .i64 0)).setCell ⟨w.heap.size + 1, 3, none⟩ (.int .i64 0)).setCell ⟨w.heap.size + 1, 4, none⟩ (.int .i64 0)).setCell ⟨w.heap.size + 1, 5, none⟩ ((.slice none 0 0)) = W2 at P Q ⊢
    have y0 := P.cell 0; have y1 := P.cell 1; have y2 := P.cell 2; have y3 := P.cell 3; have y4 := P.cell 4; have y5 := P.cell 5
    simp only [List.getElem?_cons_zero, List.getElem?_cons_succ] at y0 y1 y2 y3 y4 y5
    refine bodyPost_ret (v := .tuple #[aP ⟨0, 0, 0, 0, 0⟩ (.slice none 0 0), .int .i64 E]) (by simp [results, Try.results10, go_sem, y0, y1, y2, y3, y4, y5]) rfl ⟨_, rfl, rd_nil _, fun _ _ _ => off_nil _, Q⟩
def cutF (p : Ps) (l : List Sp) (n : Int) : R3 := if passE p l = 0 then (if isD n = false then ((p0, []), 0, 3) else withF p l (bothR 2 l [(n, 3652060)])) else ((p0, []), 0, passE p l)
set_option maxRecDepth 100000 in
set_option maxHeartbeats 500000 in
theorem cut_any (p : Ps) (d : Value) (l : List Sp) (n : Int) (w : World) (h : RdE elS w d l) : Calls Try.prog 9 #[aP p d, .int .i64 n] w (R3Q (.slice none 0 0) (cutF p l n) w) := by
  have C1 := Lib.hid (fun w' (hb : Below w.heap.size w w') => check_any p d l w' (h.below hb))
  have C2 := Lib.hid (fun f m w' (hb : Below w.heap.size w w') (hf : RdE elS w' f m) => with_any p d l f m w' (h.below hb) hf)
  have C3 := Lib.hid (fun f m w' (hb : Below w.heap.size w w') (hf : RdE elS w' f m) => minus_any d f l m w' (h.below hb) hf)
  have HI := Lib.hid (fun w => is_any n w)
  unfold cutF
  obtain ⟨E, hE⟩ : ∃ E, passE p l = E := ⟨_, rfl⟩
  rw [hE] at C1 ⊢
  clear hE
  obtain ⟨id, born, a, b, ser⟩ := p
  obtain ⟨x, cap, rfl, _, _, _⟩ := h
  have HA := Lib.hid (((br w).alloc (Nat.le_refl _) (.cells #[.int .i64 id, .int .i64 born, .int .i64 a, .int .i64 b, .int .i64 ser, .slice x l.length cap] 24)).alloc (by simp) (.cells #[.int .i64 0, .int .i64 0, .int .i64 0, .int .i64 0, .int .i64 0, .slice none 0 0] 24))
  have hx : Pb (w.alloc (.cells #[.int .i64 id, .int .i64 born, .int .i64 a, .int .i64 b, .int .i64 ser, .slice x l.length cap] 24)) w.heap.size ⟨id, born, a, b, ser⟩ (.slice x l.length cap) := Box.new w _ _
  have HX := Lib.hid (Box.alloc hx (.cells #[.int .i64 0, .int .i64 0, .int .i64 0, .int .i64 0, .int .i64 0, .slice none 0 0] 24))
  have hy : Pb ((w.alloc (.cells #[.int .i64 id, .int .i64 born, .int .i64 a, .int .i64 b, .int .i64 ser, .slice x l.length cap] 24)).alloc (.cells #[.int .i64 0, .int .i64 0, .int .i64 0, .int .i64 0, .int .i64 0, .slice none 0 0] 24)) (w.alloc (.cells #[.int .i64 id, .int .i64 born, .int .i64 a, .int .i64 b, .int .i64 ser, .slice x l.length cap] 24)).heap.size ⟨0, 0, 0, 0, 0⟩ (.slice none 0 0) := Box.new _ _ _
  rw [asz] at hy
  have HY := Lib.hid hy
  clear hy hx
  by_cases c : E = 0
  · subst c
    rw [if_pos (show (0 : Int) = 0 from rfl)]
    cases hD : isD n with
    | false =>
      rw [if_pos rfl]
      rw [hD] at HI
      go_enter Try.func9, Try.ntmps9
      go_wp2_with fail
      refine (C1.out _ (by first | exact HA.out | exact bn HA.out _)).mono ?_
      rintro en w2 ⟨rfl, b2⟩
      have HB := Lib.hid (bt HA.out b2)
      have hx := HX.out.next b2
      have hy := HY.out.next b2
      have hlt := hy.lt
      have hlt0 := hx.lt
      have k0 := hx.cell 0; have k1 := hx.cell 1; have k2 := hx.cell 2; have k3 := hx.cell 3; have k4 := hx.cell 4; have k5 := hx.cell 5
      simp only [List.getElem?_cons_zero, List.getElem?_cons_succ] at k0 k1 k2 k3 k4 k5
      have z0 := hy.cell 0; have z1 := hy.cell 1; have z2 := hy.cell 2; have z3 := hy.cell 3; have z4 := hy.cell 4; have z5 := hy.cell 5
      simp only [List.getElem?_cons_zero, List.getElem?_cons_succ] at z0 z1 z2 z3 z4 z5
      have f0 := hy.froz 0; have f1 := hy.froz 1; have f2 := hy.froz 2; have f3 := hy.froz 3; have f4 := hy.froz 4; have f5 := hy.froz 5
      have HY2 := Lib.hid hy
      clear b2 hx hy HX HA HY C1 C2 C3 hD
      go_wp2_with (first | (go_at_call 26; (with_reducible refine (HI.out _).mono ?_); rintro en w3 ⟨rfl, rfl⟩))
      have P := Pb.put HY2.out ⟨0, 0, 0, 0, 0⟩ (.slice none 0 0)
      have Q := below6 HB.out (b := w.heap.size + 1) (by omega) (.int .i64 0) (.int .i64 0) (.int .i64 0) (.int .i64 0) (.int .i64 0) ((.slice none 0 0))
      generalize (((((w2.setCell ⟨w.heap.size + 1, 0, none⟩ (.int .i64 0)).setCell ⟨w.heap.size + 1, 1, none⟩ (.int .i64 0)).setCell ⟨w.heap.size + 1, 2, none⟩ (.int .i64 0)).setCell ⟨w.heap.size + 1, 3, none⟩ (.int .i64 0)).setCell ⟨w.heap.size + 1, 4, none⟩ (.int .i64 0)).setCell ⟨w.heap.size + 1, 5, none⟩ ((.slice none 0 0)) = W2 at P Q ⊢
      have y0 := P.cell 0; have y1 := P.cell 1; have y2 := P.cell 2; have y3 := P.cell 3; have y4 := P.cell 4; have y5 := P.cell 5
      simp only [List.getElem?_cons_zero, List.getElem?_cons_succ] at y0 y1 y2 y3 y4 y5
      refine bodyPost_ret (v := .tuple #[aP ⟨0, 0, 0, 0, 0⟩ (.slice none 0 0), .int .i64 0, .int .i64 3]) (by simp [results, Try.results9, go_sem, y0, y1, y2, y3, y4, y5]) rfl ⟨_, rfl, rd_nil _, fun _ _ _ => off_nil _, Q⟩
    | true =>
      rw [if_neg (by simp)]
      rw [hD] at HI
      clear hD
      obtain ⟨r, hr⟩ : ∃ r, withF ⟨id, born, a, b, ser⟩ l (bothR 2 l [(n, 3652060)]) = r := ⟨_, rfl⟩
      have C4 := Lib.hid (fun f w' hb hf => C2.out f (bothR 2 l [(n, 3652060)]) w' hb hf)
      rw [hr] at C4 ⊢
      clear hr C2
      obtain ⟨⟨⟨i1, i2, i3, i4, i5⟩, M⟩, N, E2⟩ := r
      try simp only at C4 ⊢
      go_enter Try.func9, Try.ntmps9
      go_wp2_with fail
      refine (C1.out _ (by first | exact HA.out | exact bn HA.out _)).mono ?_
      rintro en w2 ⟨rfl, b2⟩
      have HB := Lib.hid (bt HA.out b2)
      have hx := HX.out.next b2
      have hy := HY.out.next b2
      have hlt := hy.lt
      have hlt0 := hx.lt
      have k0 := hx.cell 0; have k1 := hx.cell 1; have k2 := hx.cell 2; have k3 := hx.cell 3; have k4 := hx.cell 4; have k5 := hx.cell 5
      simp only [List.getElem?_cons_zero, List.getElem?_cons_succ] at k0 k1 k2 k3 k4 k5
      have HY2 := Lib.hid hy
      have HX2 := Lib.hid hx
      have HL := Lib.hid (rd_lit elS [(n, 3652060)] w2 51 (0, 0) w2.heap.size rfl (by simp [maxLen]))
      clear b2 hx hy HX HA HY C1
      go_wp2_with (first | (go_at_call 26; (with_reducible refine (HI.out _).mono ?_); rintro en w3 ⟨rfl, rfl⟩))
      refine (C3.out _ [(n, 3652060)] _ (HB.out.alloc HB.out.size _) HL.out).mono ?_
      rintro en w4 ⟨v4, rfl, ho4, b4⟩
      have HB4 := Lib.hid (bt (HB.out.alloc HB.out.size _) b4)
      have hx := (HX2.out.alloc _).next b4
      have HY4 := Lib.hid ((HY2.out.alloc _).next b4)
      have HV4 := Lib.hid ho4.rd
      have HO4 := Lib.hid (fun b (hb : b < w.heap.size + 2) => off_own ho4 (b := b) (by simp; omega))
      obtain ⟨x4, cap4, rfl, _, _, _⟩ := ho4.rd
      clear ho4 k0 k1 k2 k3 k4 k5
      have k0 := hx.cell 0; have k1 := hx.cell 1; have k2 := hx.cell 2; have k3 := hx.cell 3; have k4 := hx.cell 4; have k5 := hx.cell 5
      simp only [List.getElem?_cons_zero, List.getElem?_cons_succ] at k0 k1 k2 k3 k4 k5
      clear b4 hx HX2 HY2 HL HB C3
      go_wp2_with fail
      refine (C4.out _ _ HB4.out HV4.out).mono ?_
      rintro en w5 ⟨v5, rfl, hv5, ho5, b5⟩
      have HB5 := Lib.hid (bt HB4.out b5)
      have hy := HY4.out.next b5
      have HO5 := Lib.hid (fun b (hb : b < w.heap.size + 2) => ho5 b (by have := HY4.out.lt; omega) (HO4.out b hb))
      have hlt9 := hy.lt
      have HV5 := Lib.hid hv5
      obtain ⟨x5, cap5, rfl, _, _, _⟩ := hv5
      have z0 := hy.cell 0; have z1 := hy.cell 1; have z2 := hy.cell 2; have z3 := hy.cell 3; have z4 := hy.cell 4; have z5 := hy.cell 5
      simp only [List.getElem?_cons_zero, List.getElem?_cons_succ] at z0 z1 z2 z3 z4 z5
      have f0 := hy.froz 0; have f1 := hy.froz 1; have f2 := hy.froz 2; have f3 := hy.froz 3; have f4 := hy.froz 4; have f5 := hy.froz 5
      have HY5 := Lib.hid hy
      clear b5 hy ho5 HY4 HO4 HV4 C4
      go_wp2
      have P := Pb.put HY5.out ⟨i1, i2, i3, i4, i5⟩ (.slice x5 M.length cap5)
      have Q := below6 HB5.out (b := w.heap.size + 1) (by omega) (.int .i64 i1) (.int .i64 i2) (.int .i64 i3) (.int .i64 i4) (.int .i64 i5) ((.slice x5 M.length cap5))
      have R := rd_put6 (b := w.heap.size + 1) HV5.out (HO5.out _ (by omega)) (.int .i64 i1) (.int .i64 i2) (.int .i64 i3) (.int .i64 i4) (.int .i64 i5) ((.slice x5 M.length cap5))
      generalize (((((w5.setCell ⟨w.heap.size + 1, 0, none⟩ (.int .i64 i1)).setCell ⟨w.heap.size + 1, 1, none⟩ (.int .i64 i2)).setCell ⟨w.heap.size + 1, 2, none⟩ (.int .i64 i3)).setCell ⟨w.heap.size + 1, 3, none⟩ (.int .i64 i4)).setCell ⟨w.heap.size + 1, 4, none⟩ (.int .i64 i5)).setCell ⟨w.heap.size + 1, 5, none⟩ ((.slice x5 M.length cap5)) = W2 at P Q R ⊢
      have y0 := P.cell 0; have y1 := P.cell 1; have y2 := P.cell 2; have y3 := P.cell 3; have y4 := P.cell 4; have y5 := P.cell 5
      simp only [List.getElem?_cons_zero, List.getElem?_cons_succ] at y0 y1 y2 y3 y4 y5
      refine bodyPost_ret (v := .tuple #[aP ⟨i1, i2, i3, i4, i5⟩ (.slice x5 M.length cap5), .int .i64 N, .int .i64 E2]) (by simp [results, Try.results9, go_sem, y0, y1, y2, y3, y4, y5]) rfl ⟨_, rfl, R, fun b hb _ => HO5.out b (by omega), Q⟩
  · rw [if_neg c]
    have hz : (E == 0) = false := by simpa using c
    go_enter Try.func9, Try.ntmps9
    go_wp2_with fail
    refine (C1.out _ (by first | exact HA.out | exact bn HA.out _)).mono ?_
    rintro en w2 ⟨rfl, b2⟩
    have HB := Lib.hid (bt HA.out b2)
    have hx := HX.out.next b2
    have hy := HY.out.next b2
    have hlt := hy.lt
    have hlt0 := hx.lt
    have k0 := hx.cell 0; have k1 := hx.cell 1; have k2 := hx.cell 2; have k3 := hx.cell 3; have k4 := hx.cell 4; have k5 := hx.cell 5
    simp only [List.getElem?_cons_zero, List.getElem?_cons_succ] at k0 k1 k2 k3 k4 k5
    have z0 := hy.cell 0; have z1 := hy.cell 1; have z2 := hy.cell 2; have z3 := hy.cell 3; have z4 := hy.cell 4; have z5 := hy.cell 5
    simp only [List.getElem?_cons_zero, List.getElem?_cons_succ] at z0 z1 z2 z3 z4 z5
    have f0 := hy.froz 0; have f1 := hy.froz 1; have f2 := hy.froz 2; have f3 := hy.froz 3; have f4 := hy.froz 4; have f5 := hy.froz 5
    have HY2 := Lib.hid hy
    clear b2 hx hy HX HA HY C1 C2 C3
    go_wp2
    have P := Pb.put HY2.out ⟨0, 0, 0, 0, 0⟩ (.slice none 0 0)
    have Q := below6 HB.out (b := w.heap.size + 1) (by omega) (.int .i64 0) (.int .i64 0) (.int .i64 0) (.int .i64 0) (.int .i64 0) ((.slice none 0 0))
    generalize (((((w2.setCell ⟨w.heap.size + 1, 0, none⟩ (.int .i64 0)).setCell ⟨w.heap.size + 1, 1, none⟩ (.int .i64 0)).setCell ⟨w.heap.size + 1, 2, none⟩ (.int .i64 0)).setCell ⟨w.heap.size + 1, 3, none⟩ (.int .i64 0)).setCell ⟨w.heap.size + 1, 4, none⟩ (.int .i64 0)).setCell ⟨w.heap.size + 1, 5, none⟩ ((.slice none 0 0)) = W2 at P Q ⊢
    have y0 := P.cell 0; have y1 := P.cell 1; have y2 := P.cell 2; have y3 := P.cell 3; have y4 := P.cell 4; have y5 := P.cell 5
    simp only [List.getElem?_cons_zero, List.getElem?_cons_succ] at y0 y1 y2 y3 y4 y5
    refine bodyPost_ret (v := .tuple #[aP ⟨0, 0, 0, 0, 0⟩ (.slice none 0 0), .int .i64 0, .int .i64 E]) (by simp [results, Try.results9, go_sem, y0, y1, y2, y3, y4, y5]) rfl ⟨_, rfl, rd_nil _, fun _ _ _ => off_nil _, Q⟩
end Pa
end Go.Proofs.Ytdacnefklcmckaa
