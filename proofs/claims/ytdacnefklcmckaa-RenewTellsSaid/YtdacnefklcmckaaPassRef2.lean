/- Passes: the document's: where one ends; one replaced. (gen_pass3.py) -/
import Derived.Test.YtdacnefklcmckaaPassRef
import Derived.Deep.Cut
set_option linter.unusedSimpArgs false
set_option linter.unusedVariables false
namespace Go.Proofs.Ytdacnefklcmckaa
open Go.RowKit
namespace Pa
open Dt Sn
def endK (l : List Sp) (k : Nat) : Int := if h : 0 < k ∧ k ≤ l.length then (l[k - 1]'(by omega)).2 else 0
theorem endK_end (l : List Sp) : endK l l.length = endD l := by
  unfold endK endD
  by_cases h : 0 < l.length
  · rw [dif_pos ⟨h, Nat.le_refl _⟩, dif_pos h]
  · rw [dif_neg (fun x => h x.1), dif_neg h]
theorem endK_succ (l : List Sp) (k : Nat) (h : k < l.length) : endK l (k + 1) = l[k].2 := by
  unfold endK
  rw [dif_pos ⟨by omega, by omega⟩]
  rfl
set_option maxRecDepth 100000 in
set_option maxHeartbeats 800000 in
theorem endR_any (p : Ps) (d : Value) (l : List Sp) (w : World) (h : RdE elS w d l) : Calls Try.prog 23 #[aP p d] w fun e w' => e = .returned (.int .i64 (endD l)) ∧ Below w.heap.size w w' := by
  have hle := h.len_le
  obtain ⟨id, born, a, b, ser⟩ := p
  obtain ⟨x, cap, rfl, h1, h2, h3⟩ := h
  have H3 := Lib.hid h3; clear h3
  have HA := Lib.hid ((br w).alloc (Nat.le_refl _) (.cells #[.int .i64 id, .int .i64 born, .int .i64 a, .int .i64 b, .int .i64 ser, .slice x l.length cap] 24))
  have hx : Pb (w.alloc (.cells #[.int .i64 id, .int .i64 born, .int .i64 a, .int .i64 b, .int .i64 ser, .slice x l.length cap] 24)) w.heap.size ⟨id, born, a, b, ser⟩ (.slice x l.length cap) := Box.new w _ _
  have HX := Lib.hid hx
  clear hx
  have HZ := Lib.hid (show endK l 0 = 0 by unfold endK; rw [dif_neg (by omega)])
  rw [← endK_end]
  go_enter Try.func23, Try.ntmps23
  go_wp2
  go_loopw [3, 4] (fun e i wr => ∃ k : Nat, k ≤ l.length ∧ e = .int .i64 (endK l k) ∧ i = .int .i64 k ∧ Below w.heap.size w wr ∧ Box wr w.heap.size 24 [.int .i64 id, .int .i64 born, .int .i64 a, .int .i64 b, .int .i64 ser, .slice x l.length cap]) (fun _ i _ => l.length - (intOf i).toNat)
  case atStart => exact ⟨0, Nat.zero_le _, by rw [HZ.out], rfl, by first | exact HA.out | exact bn HA.out _, by first | exact HX.out | exact HX.out.dr _⟩
  case round =>
    obtain ⟨k, hk, rfl, rfl, hbw, hx⟩ := hrel
    have HBW := Lib.hid hbw
    have k5 := hx.cell 5
    simp only [List.getElem?_cons_zero, List.getElem?_cons_succ] at k5
    have HXW := Lib.hid hx
    clear hx
    by_cases hlt : k < l.length
    · obtain ⟨g, off, rfl, hbl, hc⟩ := H3.out (by omega)
      obtain ⟨q0, q1⟩ := eS_at hc k hlt
      have d1 := (hbw.cell (p := ⟨g, off + k * 2 + 1, none⟩) hbl).trans q1
      have i1 : (k : Int) < (l.length : Int) := by omega
      have i0 : (0 : Int) ≤ (k : Int) := by omega
      have HS := Lib.hid (endK_succ l k hlt)
      clear hc q0 q1 hbw H3 HA HX HZ
      obtain ⟨e0, he0⟩ : ∃ e, endK l k = e := ⟨_, rfl⟩
      rw [he0]
      clear he0
      obtain ⟨Q, hQ⟩ : ∃ Q, l[k].2 = Q := ⟨_, rfl⟩
      rw [hQ] at d1 HS
      clear hQ
      go_wp2
      go_roundw
      case rel => exact ⟨k + 1, by omega, by rw [HS.out], by go_num, HBW.out, HXW.out⟩
      case measure => simp [intOf]; omega
    · have i1 : ¬ (k : Int) < (l.length : Int) := by omega
      have hkk : k = l.length := by omega
      subst hkk
      obtain ⟨e0, he0⟩ : ∃ e, endK l l.length = e := ⟨_, rfl⟩
      rw [he0]
      have HE0 := Lib.hid he0
      clear he0 H3 HA HX HZ
      go_wp2
      go_ret
      exact ⟨by rw [HE0.out]; rfl, HBW.out⟩
set_option maxRecDepth 100000 in
set_option maxHeartbeats 800000 in
theorem replaceR_any (p : Ps) (d : Value) (l : List Sp) (w : World) (h : RdE elS w d l) : Calls Try.prog 14 #[aP p d] w (PassQ d (if repE p l = 0 then repP p else p0) (if repE p l = 0 then l else []) (repE p l) w) := by
  have C1 := Lib.hid (fun w' (hb : Below w.heap.size w w') => checkR_any p d l w' (h.below hb))
  have HE := Lib.hid (fun (hz : passE p l = 0) => passE_ok.1 hz)
  have HV := Lib.hid h
  unfold repE
  obtain ⟨E, hE⟩ : ∃ E, passE p l = E := ⟨_, rfl⟩
  rw [hE] at C1 HE ⊢
  clear hE
  obtain ⟨id, born, a, b, ser⟩ := p
  obtain ⟨x, cap, rfl, _, _, _⟩ := h
  simp only [repP]
  have HA := Lib.hid (((br w).alloc (Nat.le_refl _) (.cells #[.int .i64 id, .int .i64 born, .int .i64 a, .int .i64 b, .int .i64 ser, .slice x l.length cap] 24)).alloc (by simp) (.cells #[.int .i64 0, .int .i64 0, .int .i64 0, .int .i64 0, .int .i64 0, .slice none 0 0] 24))
  have hx : Pb (w.alloc (.cells #[.int .i64 id, .int .i64 born, .int .i64 a, .int .i64 b, .int .i64 ser, .slice x l.length cap] 24)) w.heap.size ⟨id, born, a, b, ser⟩ (.slice x l.length cap) := Box.new w _ _
  have HX := Lib.hid (Box.alloc hx (.cells #[.int .i64 0, .int .i64 0, .int .i64 0, .int .i64 0, .int .i64 0, .slice none 0 0] 24))
  have hy : Pb ((w.alloc (.cells #[.int .i64 id, .int .i64 born, .int .i64 a, .int .i64 b, .int .i64 ser, .slice x l.length cap] 24)).alloc (.cells #[.int .i64 0, .int .i64 0, .int .i64 0, .int .i64 0, .int .i64 0, .slice none 0 0] 24)) (w.alloc (.cells #[.int .i64 id, .int .i64 born, .int .i64 a, .int .i64 b, .int .i64 ser, .slice x l.length cap] 24)).heap.size ⟨0, 0, 0, 0, 0⟩ (.slice none 0 0) := Box.new _ _ _
  rw [asz] at hy
  have HY := Lib.hid hy
  clear hy hx
  by_cases c : E = 0
  · subst c
    obtain ⟨⟨_, _, _, _, _, _, s1, s2⟩, _, _⟩ := HE.out rfl
    simp only at s1 s2
    rw [if_pos (show (0 : Int) = 0 from rfl)]
    by_cases c9 : ser = 999
    · subst c9
      rw [if_pos rfl, if_neg (by decide), if_neg (by decide)]
      go_enter Try.func14, Try.ntmps14
      go_wp2_with fail
      refine (C1.out _ (by first | exact HA.out | exact bn HA.out _)).mono ?_
      rintro en w2 ⟨rfl, b2⟩
      have HB := Lib.hid (bt HA.out b2)
      have hx := HX.out.next b2
      have hy := HY.out.next b2
      have hlt := hy.lt
      have hlt0 := hx.lt
      have k0 := hx.cell 0; have k1 := hx.cell 1; have k2 := hx.cell 2; have k3 := hx.cell 3; have k4 := hx.cell 4; have k5 := hx.cell 5
      simp only [List.getElem?_cons_zero, List.getElem?_cons_succ] at k0 k1 k2 k3 k4 k5
      have z0 := hy.cell 0; have z1 := hy.cell 1; have z2 := hy.cell 2; have z3 := hy.cell 3; have z4 := hy.cell 4; have z5 := hy.cell 5
      simp only [List.getElem?_cons_zero, List.getElem?_cons_succ] at z0 z1 z2 z3 z4 z5
      have f0 := hy.froz 0; have f1 := hy.froz 1; have f2 := hy.froz 2; have f3 := hy.froz 3; have f4 := hy.froz 4; have f5 := hy.froz 5
      have HY2 := Lib.hid hy
      clear b2 hx hy HX HA HY C1
      go_wp2
      have P := Pb.put HY2.out ⟨0, 0, 0, 0, 0⟩ (.slice none 0 0)
      have Q := below6 HB.out (b := w.heap.size + 1) (by omega) (.int .i64 0) (.int .i64 0) (.int .i64 0) (.int .i64 0) (.int .i64 0) ((.slice none 0 0))
      generalize (((((w2.setCell ⟨w.heap.size + 1, 0, none⟩ (.int .i64 0)).setCell ⟨w.heap.size + 1, 1, none⟩ (.int .i64 0)).setCell ⟨w.heap.size + 1, 2, none⟩ (.int .i64 0)).setCell ⟨w.heap.size + 1, 3, none⟩ (.int .i64 0)).setCell ⟨w.heap.size + 1, 4, none⟩ (.int .i64 0)).setCell ⟨w.heap.size + 1, 5, none⟩ ((.slice none 0 0)) = W2 at P Q ⊢
      have y0 := P.cell 0; have y1 := P.cell 1; have y2 := P.cell 2; have y3 := P.cell 3; have y4 := P.cell 4; have y5 := P.cell 5
      simp only [List.getElem?_cons_zero, List.getElem?_cons_succ] at y0 y1 y2 y3 y4 y5
      refine bodyPost_ret (v := .tuple #[aP ⟨0, 0, 0, 0, 0⟩ (.slice none 0 0), .int .i64 2]) (by simp [results, Try.results14, go_sem, y0, y1, y2, y3, y4, y5]) rfl ⟨_, rfl, rd_nil _, fun _ _ _ => off_nil _, Q⟩
    · rw [if_neg c9, if_pos rfl, if_pos rfl]
      have h9 : (ser == 999) = false := by simpa using c9
      go_enter Try.func14, Try.ntmps14
      go_wp2_with fail
      refine (C1.out _ (by first | exact HA.out | exact bn HA.out _)).mono ?_
      rintro en w2 ⟨rfl, b2⟩
      have HB := Lib.hid (bt HA.out b2)
      have hx := HX.out.next b2
      have hy := HY.out.next b2
      have hlt := hy.lt
      have hlt0 := hx.lt
      have k0 := hx.cell 0; have k1 := hx.cell 1; have k2 := hx.cell 2; have k3 := hx.cell 3; have k4 := hx.cell 4; have k5 := hx.cell 5
      simp only [List.getElem?_cons_zero, List.getElem?_cons_succ] at k0 k1 k2 k3 k4 k5
      have f0 := hx.froz 0; have f1 := hx.froz 1; have f2 := hx.froz 2; have f3 := hx.froz 3; have f4 := hx.froz 4; have f5 := hx.froz 5
      have HX5 := Lib.hid (hx.set 4 (.int .i64 (ser + 1)))
      have HB5 := Lib.hid (HB.out.setCell (p := ⟨w.heap.size, 4, none⟩) (Nat.le_refl _) (.int .i64 (ser + 1)))
      have HY5 := Lib.hid (hy.other w.heap.size 4 (.int .i64 (ser + 1)) (by omega))
      have HV5 := Lib.hid (HV.out.below HB5.out)
      clear b2 hx hy HX HA HY C1 HB
      go_upto_region 7 with (fail)
      generalize w2.setCell ⟨w.heap.size, 4, none⟩ (.int .i64 (ser + 1)) = W5 at HX5 HB5 HV5 HY5 ⊢
      clear k0 k1 k2 k3 k4 k5 f0 f1 f2 f3 f4 f5 hlt hlt0
      have hx := HX5.out
      have hy := HY5.out
      have hlt2 := hy.lt
      simp only [List.set_cons_zero, List.set_cons_succ] at hx
      have k0 := hx.cell 0; have k1 := hx.cell 1; have k2 := hx.cell 2; have k3 := hx.cell 3; have k4 := hx.cell 4; have k5 := hx.cell 5
      simp only [List.getElem?_cons_zero, List.getElem?_cons_succ] at k0 k1 k2 k3 k4 k5
      have z0 := hy.cell 0; have z1 := hy.cell 1; have z2 := hy.cell 2; have z3 := hy.cell 3; have z4 := hy.cell 4; have z5 := hy.cell 5
      simp only [List.getElem?_cons_zero, List.getElem?_cons_succ] at z0 z1 z2 z3 z4 z5
      have f0 := hy.froz 0; have f1 := hy.froz 1; have f2 := hy.froz 2; have f3 := hy.froz 3; have f4 := hy.froz 4; have f5 := hy.froz 5
      clear hx hy HX5
      go_wp2
      have P := Pb.put HY5.out ⟨id, born, a, b, ser + 1⟩ (.slice x l.length cap)
      have Q := below6 HB5.out (b := w.heap.size + 1) (by omega) (.int .i64 id) (.int .i64 born) (.int .i64 a) (.int .i64 b) (.int .i64 (ser + 1)) ((.slice x l.length cap))
      have R := rd_put6 (b := w.heap.size + 1) HV5.out (off_rd HV.out (by omega)) (.int .i64 id) (.int .i64 born) (.int .i64 a) (.int .i64 b) (.int .i64 (ser + 1)) ((.slice x l.length cap))
      generalize (((((W5.setCell ⟨w.heap.size + 1, 0, none⟩ (.int .i64 id)).setCell ⟨w.heap.size + 1, 1, none⟩ (.int .i64 born)).setCell ⟨w.heap.size + 1, 2, none⟩ (.int .i64 a)).setCell ⟨w.heap.size + 1, 3, none⟩ (.int .i64 b)).setCell ⟨w.heap.size + 1, 4, none⟩ (.int .i64 (ser + 1))).setCell ⟨w.heap.size + 1, 5, none⟩ ((.slice x l.length cap)) = W2 at P Q R ⊢
      have y0 := P.cell 0; have y1 := P.cell 1; have y2 := P.cell 2; have y3 := P.cell 3; have y4 := P.cell 4; have y5 := P.cell 5
      simp only [List.getElem?_cons_zero, List.getElem?_cons_succ] at y0 y1 y2 y3 y4 y5
      refine bodyPost_ret (v := .tuple #[aP ⟨id, born, a, b, ser + 1⟩ (.slice x l.length cap), .int .i64 0]) (by simp [results, Try.results14, go_sem, y0, y1, y2, y3, y4, y5]) rfl ⟨_, rfl, R, fun b hb h => h, Q⟩
  · rw [if_neg c, if_neg c, if_neg c]
    have hz : (E == 0) = false := by simpa using c
    go_enter Try.func14, Try.ntmps14
    go_wp2_with fail
    refine (C1.out _ (by first | exact HA.out | exact bn HA.out _)).mono ?_
    rintro en w2 ⟨rfl, b2⟩
    have HB := Lib.hid (bt HA.out b2)
    have hx := HX.out.next b2
    have hy := HY.out.next b2
    have hlt := hy.lt
    have hlt0 := hx.lt
    have k0 := hx.cell 0; have k1 := hx.cell 1; have k2 := hx.cell 2; have k3 := hx.cell 3; have k4 := hx.cell 4; have k5 := hx.cell 5
    simp only [List.getElem?_cons_zero, List.getElem?_cons_succ] at k0 k1 k2 k3 k4 k5
    have z0 := hy.cell 0; have z1 := hy.cell 1; have z2 := hy.cell 2; have z3 := hy.cell 3; have z4 := hy.cell 4; have z5 := hy.cell 5
    simp only [List.getElem?_cons_zero, List.getElem?_cons_succ] at z0 z1 z2 z3 z4 z5
    have f0 := hy.froz 0; have f1 := hy.froz 1; have f2 := hy.froz 2; have f3 := hy.froz 3; have f4 := hy.froz 4; have f5 := hy.froz 5
    have HY2 := Lib.hid hy
    clear b2 hx hy HX HA HY C1
    go_wp2
    have P := Pb.put HY2.out ⟨0, 0, 0, 0, 0⟩ (.slice none 0 0)
    have Q := below6 HB.out (b := w.heap.size + 1) (by omega) (.int .i64 0) (.int .i64 0) (.int .i64 0) (.int .i64 0) (.int .i64 0) ((.slice none 0 0))
    generalize (((((w2.setCell ⟨w.heap.size + 1, 0, none⟩ (.int .i64 0)).setCell ⟨w.heap.size + 1, 1, none⟩ (.int .i64 0)).setCell ⟨w.heap.size + 1, 2, none⟩ (.int .i64 0)).setCell ⟨w.heap.size + 1, 3, none⟩ (.int .i64 0)).setCell ⟨w.heap.size + 1, 4, none⟩ (.int .i64 0)).setCell ⟨w.heap.size + 1, 5, none⟩ ((.slice none 0 0)) = W2 at P Q ⊢
    have y0 := P.cell 0; have y1 := P.cell 1; have y2 := P.cell 2; have y3 := P.cell 3; have y4 := P.cell 4; have y5 := P.cell 5
    simp only [List.getElem?_cons_zero, List.getElem?_cons_succ] at y0 y1 y2 y3 y4 y5
    refine bodyPost_ret (v := .tuple #[aP ⟨0, 0, 0, 0, 0⟩ (.slice none 0 0), .int .i64 E]) (by simp [results, Try.results14, go_sem, y0, y1, y2, y3, y4, y5]) rfl ⟨_, rfl, rd_nil _, fun _ _ _ => off_nil _, Q⟩
end Pa
end Go.Proofs.Ytdacnefklcmckaa
