/- Passes: a pass is renewed. (gen_pass3.py) -/
import Derived.Test.YtdacnefklcmckaaPassCut
import Derived.Deep.Cut
import Derived.Deep.RegionHeld3
set_option linter.unusedSimpArgs false
set_option linter.unusedVariables false
namespace Go.Proofs.Ytdacnefklcmckaa
open Go.RowKit
namespace Pa
open Dt Sn
def frm (l : List Sp) (n : Int) : Int := max n (endD l)
def renF (p : Ps) (l : List Sp) (n u N : Int) : R3 := if passE p l = 0 then (if isD n = false then ((p0, []), 0, 3) else if (nthF u N (frm l n) 1).2 = 0 then (if bothE 0 l (oneL (frm l n) u N) = 0 then withF p l (bothR 0 l (oneL (frm l n) u N)) else ((p0, []), 0, bothE 0 l (oneL (frm l n) u N))) else ((p0, []), 0, (nthF u N (frm l n) 1).2)) else ((p0, []), 0, passE p l)
set_option maxRecDepth 100000 in
set_option maxHeartbeats 800000 in
theorem renew_any (p : Ps) (d : Value) (l : List Sp) (n u N : Int) (w : World) (h : RdE elS w d l) : Calls Try.prog 20 #[aP p d, .int .i64 n, aT u N] w (R3Q (.slice none 0 0) (renF p l n u N) w) := by
  have C1 := Lib.hid (fun w' (hb : Below w.heap.size w w') => check_any p d l w' (h.below hb))
  have C3 := Lib.hid (fun w' (hb : Below w.heap.size w w') => end_any p d l w' (h.below hb))
  have C2 := Lib.hid (fun f m w' (hb : Below w.heap.size w w') (hf : RdE elS w' f m) => with_any p d l f m w' (h.below hb) hf)
  have C5 := Lib.hid (fun f m w' (hb : Below w.heap.size w w') (hf : RdE elS w' f m) => union_any d f l m w' (h.below hb) hf)
  have C4 := Lib.hid (fun w' => one_any (frm l n) u N w')
  have HI := Lib.hid (fun w => is_any n w)
  unfold renF
  generalize oneL (frm l n) u N = L at *
  have C7 := Lib.hid (fun f w' hb hf => C5.out f L w' hb hf)
  have C6 := Lib.hid (fun f w' hb hf => C2.out f (bothR 0 l L) w' hb hf)
  clear C2 C5
  obtain ⟨E5, hE5⟩ : ∃ E, bothE 0 l L = E := ⟨_, rfl⟩
  obtain ⟨M0, hM0⟩ : ∃ E, bothR 0 l L = E := ⟨_, rfl⟩
  rw [hE5, hM0] at C7 ⊢
  rw [hM0] at C6
  clear hE5 hM0
  obtain ⟨E4, hE4⟩ : ∃ E, (nthF u N (frm l n) 1).2 = E := ⟨_, rfl⟩
  rw [hE4] at C4 ⊢
  clear hE4
  unfold frm at C4
  obtain ⟨en, hen⟩ : ∃ e, endD l = e := ⟨_, rfl⟩
  rw [hen] at C3 C4
  clear hen
  unfold aT at C4 ⊢
  obtain ⟨E, hE⟩ : ∃ E, passE p l = E := ⟨_, rfl⟩
  rw [hE] at C1 ⊢
  clear hE
  obtain ⟨id, born, a, b, ser⟩ := p
  obtain ⟨x, cap, rfl, _, _, _⟩ := h
  have HA := Lib.hid ((((br w).alloc (Nat.le_refl _) (.cells #[.int .i64 id, .int .i64 born, .int .i64 a, .int .i64 b, .int .i64 ser, .slice x l.length cap] 24)).alloc (by simp) (.cells #[.int .i64 u, .int .i64 N] 26)).alloc (by simp; omega) (.cells #[.int .i64 0, .int .i64 0, .int .i64 0, .int .i64 0, .int .i64 0, .slice none 0 0] 24))
  have hx : Pb (w.alloc (.cells #[.int .i64 id, .int .i64 born, .int .i64 a, .int .i64 b, .int .i64 ser, .slice x l.length cap] 24)) w.heap.size ⟨id, born, a, b, ser⟩ (.slice x l.length cap) := Box.new w _ _
  have HX := Lib.hid (Box.alloc (Box.alloc hx (.cells #[.int .i64 u, .int .i64 N] 26)) (.cells #[.int .i64 0, .int .i64 0, .int .i64 0, .int .i64 0, .int .i64 0, .slice none 0 0] 24))
  have ht : Box ((w.alloc (.cells #[.int .i64 id, .int .i64 born, .int .i64 a, .int .i64 b, .int .i64 ser, .slice x l.length cap] 24)).alloc (.cells #[.int .i64 u, .int .i64 N] 26)) (w.alloc (.cells #[.int .i64 id, .int .i64 born, .int .i64 a, .int .i64 b, .int .i64 ser, .slice x l.length cap] 24)).heap.size 26 [.int .i64 u, .int .i64 N] := Box.new _ _ _
  rw [asz] at ht
  have HT := Lib.hid (Box.alloc ht (.cells #[.int .i64 0, .int .i64 0, .int .i64 0, .int .i64 0, .int .i64 0, .slice none 0 0] 24))
  have hy : Pb (((w.alloc (.cells #[.int .i64 id, .int .i64 born, .int .i64 a, .int .i64 b, .int .i64 ser, .slice x l.length cap] 24)).alloc (.cells #[.int .i64 u, .int .i64 N] 26)).alloc (.cells #[.int .i64 0, .int .i64 0, .int .i64 0, .int .i64 0, .int .i64 0, .slice none 0 0] 24)) ((w.alloc (.cells #[.int .i64 id, .int .i64 born, .int .i64 a, .int .i64 b, .int .i64 ser, .slice x l.length cap] 24)).alloc (.cells #[.int .i64 u, .int .i64 N] 26)).heap.size ⟨0, 0, 0, 0, 0⟩ (.slice none 0 0) := Box.new _ _ _
  rw [asz, asz] at hy
  have HY := Lib.hid hy
  clear hy hx ht
  by_cases c : E = 0
  · subst c
    rw [if_pos (show (0 : Int) = 0 from rfl)]
    cases hD : isD n with
    | false =>
      rw [if_pos rfl]
      rw [hD] at HI
      clear hD C6 C3 C4 C7
      go_enter Try.func20, Try.ntmps20
      go_wp2_with fail
      refine (C1.out _ (by first | exact HA.out | exact bn HA.out _)).mono ?_
      rintro en w2 ⟨rfl, b2⟩
      have HB := Lib.hid (bt HA.out b2)
      have hx := HX.out.next b2
      have hy := HY.out.next b2
      have ht := HT.out.next b2
      have hlt := hy.lt
      have hlt0 := hx.lt
      have hlt1 := ht.lt
      have k0 := hx.cell 0; have k1 := hx.cell 1; have k2 := hx.cell 2; have k3 := hx.cell 3; have k4 := hx.cell 4; have k5 := hx.cell 5
      simp only [List.getElem?_cons_zero, List.getElem?_cons_succ] at k0 k1 k2 k3 k4 k5
      have t0 := ht.cell 0; have t1 := ht.cell 1
      simp only [List.getElem?_cons_zero, List.getElem?_cons_succ] at t0 t1
      have z0 := hy.cell 0; have z1 := hy.cell 1; have z2 := hy.cell 2; have z3 := hy.cell 3; have z4 := hy.cell 4; have z5 := hy.cell 5
      simp only [List.getElem?_cons_zero, List.getElem?_cons_succ] at z0 z1 z2 z3 z4 z5
      have f0 := hy.froz 0; have f1 := hy.froz 1; have f2 := hy.froz 2; have f3 := hy.froz 3; have f4 := hy.froz 4; have f5 := hy.froz 5
      have HX2 := Lib.hid hx; have HY2 := Lib.hid hy; have HT2 := Lib.hid ht
      clear b2 hx hy ht HX HA HY HT C1
      go_wp2_with (first | (go_at_call 26; (with_reducible refine (HI.out _).mono ?_); rintro en w3 ⟨rfl, rfl⟩))
      have P := Pb.put HY2.out ⟨0, 0, 0, 0, 0⟩ (.slice none 0 0)
      have Q := below6 HB.out (b := w.heap.size + 2) (by omega) (.int .i64 0) (.int .i64 0) (.int .i64 0) (.int .i64 0) (.int .i64 0) ((.slice none 0 0))
      generalize (((((w2.setCell ⟨w.heap.size + 2, 0, none⟩ (.int .i64 0)).setCell ⟨w.heap.size + 2, 1, none⟩ (.int .i64 0)).setCell ⟨w.heap.size + 2, 2, none⟩ (.int .i64 0)).setCell ⟨w.heap.size + 2, 3, none⟩ (.int .i64 0)).setCell ⟨w.heap.size + 2, 4, none⟩ (.int .i64 0)).setCell ⟨w.heap.size + 2, 5, none⟩ ((.slice none 0 0)) = W2 at P Q ⊢
      have y0 := P.cell 0; have y1 := P.cell 1; have y2 := P.cell 2; have y3 := P.cell 3; have y4 := P.cell 4; have y5 := P.cell 5
      simp only [List.getElem?_cons_zero, List.getElem?_cons_succ] at y0 y1 y2 y3 y4 y5
      refine bodyPost_ret (v := .tuple #[aP ⟨0, 0, 0, 0, 0⟩ (.slice none 0 0), .int .i64 0, .int .i64 3]) (by simp [results, Try.results20, go_sem, y0, y1, y2, y3, y4, y5]) rfl ⟨_, rfl, rd_nil _, fun _ _ _ => off_nil _, Q⟩
    | true =>
      rw [if_neg (by simp)]
      rw [hD] at HI
      clear hD
      obtain ⟨R, hR⟩ : ∃ R : R3, (if E4 = 0 then (if E5 = 0 then withF ⟨id, born, a, b, ser⟩ l M0 else ((p0, []), 0, E5)) else ((p0, []), 0, E4)) = R := ⟨_, rfl⟩
      rw [hR]
      have HR := Lib.hid hR
      clear hR
      go_enter Try.func20, Try.ntmps20
      go_wp2_with fail
      refine (C1.out _ (by first | exact HA.out | exact bn HA.out _)).mono ?_
      rintro en w2 ⟨rfl, b2⟩
      have HB := Lib.hid (bt HA.out b2)
      have hx := HX.out.next b2
      have hy := HY.out.next b2
      have ht := HT.out.next b2
      have hlt := hy.lt
      have hlt0 := hx.lt
      have hlt1 := ht.lt
      have k0 := hx.cell 0; have k1 := hx.cell 1; have k2 := hx.cell 2; have k3 := hx.cell 3; have k4 := hx.cell 4; have k5 := hx.cell 5
      simp only [List.getElem?_cons_zero, List.getElem?_cons_succ] at k0 k1 k2 k3 k4 k5
      have t0 := ht.cell 0; have t1 := ht.cell 1
      simp only [List.getElem?_cons_zero, List.getElem?_cons_succ] at t0 t1
      have HX2 := Lib.hid hx; have HY2 := Lib.hid hy; have HT2 := Lib.hid ht
      clear b2 hx hy ht HX HA HY HT C1
      go_wp2_with (first | (go_at_call 26; (with_reducible refine (HI.out _).mono ?_); rintro en w3 ⟨rfl, rfl⟩))
      have HBd := Lib.hid (bn HB.out 1)
      go_region_held3 (fun w' => w'.cell? ⟨w.heap.size, 0, none⟩ = some (.int .i64 id) ∧ w'.cell? ⟨w.heap.size, 1, none⟩ = some (.int .i64 born) ∧ w'.cell? ⟨w.heap.size, 2, none⟩ = some (.int .i64 a) ∧ w'.cell? ⟨w.heap.size, 3, none⟩ = some (.int .i64 b) ∧ w'.cell? ⟨w.heap.size, 4, none⟩ = some (.int .i64 ser) ∧ w'.cell? ⟨w.heap.size, 5, none⟩ = some (.slice x l.length cap) ∧ w'.cell? ⟨w.heap.size + 1, 0, none⟩ = some (.int .i64 u) ∧ w'.cell? ⟨w.heap.size + 1, 1, none⟩ = some (.int .i64 N))
        (first | go_keep | (go_split_ands; (repeat' apply And.intro) <;> first | assumption | exact kp hb1 (by assumption) | exact kp hb2 (by assumption)) | fail)
        (first
          | (go_at_call 41; refine (C3.out _ HBd.out).mono ?_; rintro en wx ⟨rfl, hb1⟩; have HBX := Lib.hid (bd HB.out hb1); have HXX := Lib.hid ((HX2.out.dr 1).next hb1); have HYX := Lib.hid ((HY2.out.dr 1).next hb1))
          | (go_at_call 24; (with_reducible refine (C4.out _).mono ?_); rintro en wy ⟨v4, rfl, hv4, ho4, hb2⟩; have HV4 := Lib.hid hv4; have HO4 := Lib.hid ho4; obtain ⟨x4, cap4, rfl, _, _, _⟩ := hv4; clear ho4; have HBY := Lib.hid (bt HBX.out hb2); have HXY := Lib.hid (HXX.out.next hb2); have HYY := Lib.hid (HYX.out.next hb2))
          | fail)
      have hx := HXY.out
      have hR := HR.out
      clear HR k0 k1 k2 k3 k4 k5 t0 t1 HBd HBX HXX HYX hb1 hb2 hlt hlt0 hlt1 HI HX2 HY2 HT2 C3 C4
      have k0 := hx.cell 0; have k1 := hx.cell 1; have k2 := hx.cell 2; have k3 := hx.cell 3; have k4 := hx.cell 4; have k5 := hx.cell 5
      simp only [List.getElem?_cons_zero, List.getElem?_cons_succ] at k0 k1 k2 k3 k4 k5
      clear hx
      have hyy := HYY.out.lt
      by_cases c4 : E4 = 0
      · subst c4
        rw [if_pos rfl] at hR
        have HR := Lib.hid hR
        clear hR
        go_wp2_with fail
        refine (C7.out _ _ HBY.out HV4.out).mono ?_
        rintro en6 w6 ⟨v6, rfl, ho6, b6⟩
        have HB6 := Lib.hid (bt HBY.out b6)
        have HX6 := Lib.hid (HXY.out.next b6)
        have HY6 := Lib.hid (HYY.out.next b6)
        have HV6 := Lib.hid ho6.rd
        have HO6 := Lib.hid (fun b (hb : b < w.heap.size + 3) => off_own ho6 (b := b) (by omega))
        obtain ⟨x6, cap6, rfl, _, _, _⟩ := ho6.rd
        clear ho6 b6 k0 k1 k2 k3 k4 k5 hyy HXY HYY HBY C7
        have hR := HR.out
        by_cases c5 : E5 = 0
        · subst c5
          rw [if_pos rfl] at hR
          have hc6 := C6.out
          simp only [hR] at hc6
          have HC6 := Lib.hid hc6
          clear hR HR hc6 C6
          obtain ⟨⟨⟨i1, i2, i3, i4, i5⟩, M⟩, N3, E6⟩ := R
          have hx := HX6.out
          have k0 := hx.cell 0; have k1 := hx.cell 1; have k2 := hx.cell 2; have k3 := hx.cell 3; have k4 := hx.cell 4; have k5 := hx.cell 5
          simp only [List.getElem?_cons_zero, List.getElem?_cons_succ] at k0 k1 k2 k3 k4 k5
          clear hx
          go_wp2_with fail
          refine (HC6.out _ _ HB6.out HV6.out).mono ?_
          rintro en7 w7 ⟨v7, rfl, hv7, ho7, b7⟩
          have HB7 := Lib.hid (bt HB6.out b7)
          have HY7 := Lib.hid (HY6.out.next b7)
          have HO7 := Lib.hid (fun b (hb : b < w.heap.size + 3) => ho7 b (by have := HY6.out.lt; omega) (HO6.out b hb))
          have HV7 := Lib.hid hv7
          obtain ⟨x7, cap7, rfl, _, _, _⟩ := hv7
          clear b7 ho7 HX6 HY6 HB6 HV6 HO6 HC6 k0 k1 k2 k3 k4 k5
          have hy := HY7.out
          have hlt := hy.lt
          have z0 := hy.cell 0; have z1 := hy.cell 1; have z2 := hy.cell 2; have z3 := hy.cell 3; have z4 := hy.cell 4; have z5 := hy.cell 5
          simp only [List.getElem?_cons_zero, List.getElem?_cons_succ] at z0 z1 z2 z3 z4 z5
          have f0 := hy.froz 0; have f1 := hy.froz 1; have f2 := hy.froz 2; have f3 := hy.froz 3; have f4 := hy.froz 4; have f5 := hy.froz 5
          clear hy
          go_wp2
          have P := Pb.put HY7.out ⟨i1, i2, i3, i4, i5⟩ (.slice x7 M.length cap7)
          have Q := below6 HB7.out (b := w.heap.size + 2) (by omega) (.int .i64 i1) (.int .i64 i2) (.int .i64 i3) (.int .i64 i4) (.int .i64 i5) ((.slice x7 M.length cap7))
          have R := rd_put6 (b := w.heap.size + 2) HV7.out (HO7.out _ (by omega)) (.int .i64 i1) (.int .i64 i2) (.int .i64 i3) (.int .i64 i4) (.int .i64 i5) ((.slice x7 M.length cap7))
          generalize (((((w7.setCell ⟨w.heap.size + 2, 0, none⟩ (.int .i64 i1)).setCell ⟨w.heap.size + 2, 1, none⟩ (.int .i64 i2)).setCell ⟨w.heap.size + 2, 2, none⟩ (.int .i64 i3)).setCell ⟨w.heap.size + 2, 3, none⟩ (.int .i64 i4)).setCell ⟨w.heap.size + 2, 4, none⟩ (.int .i64 i5)).setCell ⟨w.heap.size + 2, 5, none⟩ ((.slice x7 M.length cap7)) = W2 at P Q R ⊢
          have y0 := P.cell 0; have y1 := P.cell 1; have y2 := P.cell 2; have y3 := P.cell 3; have y4 := P.cell 4; have y5 := P.cell 5
          simp only [List.getElem?_cons_zero, List.getElem?_cons_succ] at y0 y1 y2 y3 y4 y5
          refine bodyPost_ret (v := .tuple #[aP ⟨i1, i2, i3, i4, i5⟩ (.slice x7 M.length cap7), .int .i64 N3, .int .i64 E6]) (by simp [results, Try.results20, go_sem, y0, y1, y2, y3, y4, y5]) rfl ⟨_, rfl, R, fun b hb _ => HO7.out b (by omega), Q⟩
        · rw [if_neg c5] at hR
          subst hR
          have hz : (E5 == 0) = false := by simpa using c5
          have hy := HY6.out
          have hlt := hy.lt
          have z0 := hy.cell 0; have z1 := hy.cell 1; have z2 := hy.cell 2; have z3 := hy.cell 3; have z4 := hy.cell 4; have z5 := hy.cell 5
          simp only [List.getElem?_cons_zero, List.getElem?_cons_succ] at z0 z1 z2 z3 z4 z5
          have f0 := hy.froz 0; have f1 := hy.froz 1; have f2 := hy.froz 2; have f3 := hy.froz 3; have f4 := hy.froz 4; have f5 := hy.froz 5
          clear hy HR C6
          go_wp2
          have P := Pb.put HY6.out ⟨0, 0, 0, 0, 0⟩ (.slice none 0 0)
          have Q := below6 HB6.out (b := w.heap.size + 2) (by omega) (.int .i64 0) (.int .i64 0) (.int .i64 0) (.int .i64 0) (.int .i64 0) ((.slice none 0 0))
          generalize (((((w6.setCell ⟨w.heap.size + 2, 0, none⟩ (.int .i64 0)).setCell ⟨w.heap.size + 2, 1, none⟩ (.int .i64 0)).setCell ⟨w.heap.size + 2, 2, none⟩ (.int .i64 0)).setCell ⟨w.heap.size + 2, 3, none⟩ (.int .i64 0)).setCell ⟨w.heap.size + 2, 4, none⟩ (.int .i64 0)).setCell ⟨w.heap.size + 2, 5, none⟩ ((.slice none 0 0)) = W2 at P Q ⊢
          have y0 := P.cell 0; have y1 := P.cell 1; have y2 := P.cell 2; have y3 := P.cell 3; have y4 := P.cell 4; have y5 := P.cell 5
          simp only [List.getElem?_cons_zero, List.getElem?_cons_succ] at y0 y1 y2 y3 y4 y5
          refine bodyPost_ret (v := .tuple #[aP ⟨0, 0, 0, 0, 0⟩ (.slice none 0 0), .int .i64 0, .int .i64 E5]) (by simp [results, Try.results20, go_sem, y0, y1, y2, y3, y4, y5]) rfl ⟨_, rfl, rd_nil _, fun _ _ _ => off_nil _, Q⟩
      · rw [if_neg c4] at hR
        subst hR
        have hz : (E4 == 0) = false := by simpa using c4
        have hy := HYY.out
        have z0 := hy.cell 0; have z1 := hy.cell 1; have z2 := hy.cell 2; have z3 := hy.cell 3; have z4 := hy.cell 4; have z5 := hy.cell 5
        simp only [List.getElem?_cons_zero, List.getElem?_cons_succ] at z0 z1 z2 z3 z4 z5
        have f0 := hy.froz 0; have f1 := hy.froz 1; have f2 := hy.froz 2; have f3 := hy.froz 3; have f4 := hy.froz 4; have f5 := hy.froz 5
        clear hy C6 C7
        go_wp2
        have P := Pb.put HYY.out ⟨0, 0, 0, 0, 0⟩ (.slice none 0 0)
        have Q := below6 HBY.out (b := w.heap.size + 2) (by omega) (.int .i64 0) (.int .i64 0) (.int .i64 0) (.int .i64 0) (.int .i64 0) ((.slice none 0 0))
        generalize (((((wy.setCell ⟨w.heap.size + 2, 0, none⟩ (.int .i64 0)).setCell ⟨w.heap.size + 2, 1, none⟩ (.int .i64 0)).setCell ⟨w.heap.size + 2, 2, none⟩ (.int .i64 0)).setCell ⟨w.heap.size + 2, 3, none⟩ (.int .i64 0)).setCell ⟨w.heap.size + 2, 4, none⟩ (.int .i64 0)).setCell ⟨w.heap.size + 2, 5, none⟩ ((.slice none 0 0)) = W2 at P Q ⊢
        have y0 := P.cell 0; have y1 := P.cell 1; have y2 := P.cell 2; have y3 := P.cell 3; have y4 := P.cell 4; have y5 := P.cell 5
        simp only [List.getElem?_cons_zero, List.getElem?_cons_succ] at y0 y1 y2 y3 y4 y5
        refine bodyPost_ret (v := .tuple #[aP ⟨0, 0, 0, 0, 0⟩ (.slice none 0 0), .int .i64 0, .int .i64 E4]) (by simp [results, Try.results20, go_sem, y0, y1, y2, y3, y4, y5]) rfl ⟨_, rfl, rd_nil _, fun _ _ _ => off_nil _, Q⟩

  · rw [if_neg c]
    have hz : (E == 0) = false := by simpa using c
    clear C6 C3 C4 C7
    go_enter Try.func20, Try.ntmps20
    go_wp2_with fail
    refine (C1.out _ (by first | exact HA.out | exact bn HA.out _)).mono ?_
    rintro en w2 ⟨rfl, b2⟩
    have HB := Lib.hid (bt HA.out b2)
    have hx := HX.out.next b2
    have hy := HY.out.next b2
    have ht := HT.out.next b2
    have hlt := hy.lt
    have hlt0 := hx.lt
    have hlt1 := ht.lt
    have z0 := hy.cell 0; have z1 := hy.cell 1; have z2 := hy.cell 2; have z3 := hy.cell 3; have z4 := hy.cell 4; have z5 := hy.cell 5
    simp only [List.getElem?_cons_zero, List.getElem?_cons_succ] at z0 z1 z2 z3 z4 z5
    have f0 := hy.froz 0; have f1 := hy.froz 1; have f2 := hy.froz 2; have f3 := hy.froz 3; have f4 := hy.froz 4; have f5 := hy.froz 5
    have HX2 := Lib.hid hx; have HY2 := Lib.hid hy; have HT2 := Lib.hid ht
    clear b2 hx hy ht HX HA HY HT C1
    go_wp2
    have P := Pb.put HY2.out ⟨0, 0, 0, 0, 0⟩ (.slice none 0 0)
    have Q := below6 HB.out (b := w.heap.size + 2) (by omega) (.int .i64 0) (.int .i64 0) (.int .i64 0) (.int .i64 0) (.int .i64 0) ((.slice none 0 0))
    generalize (((((w2.setCell ⟨w.heap.size + 2, 0, none⟩ (.int .i64 0)).setCell ⟨w.heap.size + 2, 1, none⟩ (.int .i64 0)).setCell ⟨w.heap.size + 2, 2, none⟩ (.int .i64 0)).setCell ⟨w.heap.size + 2, 3, none⟩ (.int .i64 0)).setCell ⟨w.heap.size + 2, 4, none⟩ (.int .i64 0)).setCell ⟨w.heap.size + 2, 5, none⟩ ((.slice none 0 0)) = W2 at P Q ⊢
    have y0 := P.cell 0; have y1 := P.cell 1; have y2 := P.cell 2; have y3 := P.cell 3; have y4 := P.cell 4; have y5 := P.cell 5
    simp only [List.getElem?_cons_zero, List.getElem?_cons_succ] at y0 y1 y2 y3 y4 y5
    refine bodyPost_ret (v := .tuple #[aP ⟨0, 0, 0, 0, 0⟩ (.slice none 0 0), .int .i64 0, .int .i64 E]) (by simp [results, Try.results20, go_sem, y0, y1, y2, y3, y4, y5]) rfl ⟨_, rfl, rd_nil _, fun _ _ _ => off_nil _, Q⟩
end Pa
end Go.Proofs.Ytdacnefklcmckaa
