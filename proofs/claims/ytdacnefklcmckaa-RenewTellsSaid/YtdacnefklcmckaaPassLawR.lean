/- Passes: the statement RenewTells. (gen_pass3.py) -/
import Derived.Test.YtdacnefklcmckaaPassPlain
import Derived.Test.YtdacnefklcmckaaPassBegun
set_option linter.unusedSimpArgs false
set_option linter.unusedVariables false
namespace Go.Proofs.Ytdacnefklcmckaa
open Go.RowKit
namespace Pa
open Dt Sn
set_option maxRecDepth 100000 in
set_option maxHeartbeats 800000 in
theorem renew_walk (p : Ps) (d : Value) (l : List Sp) (n u N : Int) (w : World) (h : RdE elS w d l) : Calls Try.prog 4 #[aP p d, .int .i64 n, aT u N] w (BoolQ true w) := by
  have C1 := Lib.hid (fun w' (hb : Below w.heap.size w w') => renew_any p d l n u N w' (h.below hb))
  have C2 := Lib.hid (fun w' (hb : Below w.heap.size w w') => renewR_any p d l n u N w' (h.below hb))
  have CB := Lib.hid begun_any
  rw [ren_eq] at C1
  generalize renG p l n u N = R at *
  obtain ⟨⟨⟨i1, i2, i3, i4, i5⟩, M⟩, K, E⟩ := R
  have CS := Lib.hid (fun a b w h h' => same_yes ⟨i1, i2, i3, i4, i5⟩ a b M w h h')
  unfold aT at C1 C2 ⊢
  obtain ⟨id, born, a, b, ser⟩ := p
  obtain ⟨x, cap, rfl, _, _, _⟩ := h
  have e1 : (K == K) = true := by simp
  have e2 : (E == E) = true := by simp
  have HA := Lib.hid (((br w).alloc (Nat.le_refl _) (.cells #[.int .i64 id, .int .i64 born, .int .i64 a, .int .i64 b, .int .i64 ser, .slice x l.length cap] 24)).alloc (by simp) (.cells #[.int .i64 u, .int .i64 N] 26))
  have hx : Pb (w.alloc (.cells #[.int .i64 id, .int .i64 born, .int .i64 a, .int .i64 b, .int .i64 ser, .slice x l.length cap] 24)) w.heap.size ⟨id, born, a, b, ser⟩ (.slice x l.length cap) := Box.new w _ _
  have HX := Lib.hid (Box.alloc hx (.cells #[.int .i64 u, .int .i64 N] 26))
  have ht : Box ((w.alloc (.cells #[.int .i64 id, .int .i64 born, .int .i64 a, .int .i64 b, .int .i64 ser, .slice x l.length cap] 24)).alloc (.cells #[.int .i64 u, .int .i64 N] 26)) (w.alloc (.cells #[.int .i64 id, .int .i64 born, .int .i64 a, .int .i64 b, .int .i64 ser, .slice x l.length cap] 24)).heap.size 26 [.int .i64 u, .int .i64 N] := Box.new _ _ _
  rw [asz] at ht
  have HT := Lib.hid ht
  clear ht hx
  go_enter Try.func4, Try.ntmps4
  go_wp2_with fail
  refine (C1.out _ HA.out).mono ?_
  rintro en w2 ⟨v2, rfl, hv2, _, b2⟩
  have HB2 := Lib.hid (bt HA.out b2)
  have hx := HX.out.next b2
  have ht := HT.out.next b2
  have hlt := ht.lt
  have hlt0 := hx.lt
  obtain ⟨x2, c2, rfl⟩ : ∃ x c, v2 = .slice x M.length c := by obtain ⟨x, c, h0, _⟩ := hv2; exact ⟨x, c, h0⟩
  have HB2a := Lib.hid (HB2.out.alloc HB2.out.size (.cells #[.int .i64 i1, .int .i64 i2, .int .i64 i3, .int .i64 i4, .int .i64 i5, .slice x2 M.length c2] 24))
  have HP := Lib.hid (Box.new w2 24 [.int .i64 i1, .int .i64 i2, .int .i64 i3, .int .i64 i4, .int .i64 i5, .slice x2 M.length c2])
  have HV := Lib.hid (Rd.below hv2 ((br w2).alloc (Nat.le_refl _) (.cells #[.int .i64 i1, .int .i64 i2, .int .i64 i3, .int .i64 i4, .int .i64 i5, .slice x2 M.length c2] 24)))
  have k0 := hx.cell 0; have k1 := hx.cell 1; have k2 := hx.cell 2; have k3 := hx.cell 3; have k4 := hx.cell 4; have k5 := hx.cell 5
  simp only [List.getElem?_cons_zero, List.getElem?_cons_succ] at k0 k1 k2 k3 k4 k5
  have t0 := ht.cell 0; have t1 := ht.cell 1
  simp only [List.getElem?_cons_zero, List.getElem?_cons_succ] at t0 t1
  clear b2 hv2 hx ht HX HT HB2 HA C1
  go_wp2_with fail
  refine (C2.out _ HB2a.out).mono ?_
  rintro en3 w3 ⟨v3, rfl, hv3, _, b3⟩
  have HB3 := Lib.hid (bt HB2a.out b3)
  have HP3 := Lib.hid (HP.out.next b3)
  obtain ⟨x3, c3, rfl⟩ : ∃ x c, v3 = .slice x M.length c := by obtain ⟨x, c, h0, _⟩ := hv3; exact ⟨x, c, h0⟩
  have HB3a := Lib.hid (HB3.out.alloc HB3.out.size (.cells #[.int .i64 i1, .int .i64 i2, .int .i64 i3, .int .i64 i4, .int .i64 i5, .slice x3 M.length c3] 24))
  have HP3a := Lib.hid (HP3.out.alloc (.cells #[.int .i64 i1, .int .i64 i2, .int .i64 i3, .int .i64 i4, .int .i64 i5, .slice x3 M.length c3] 24))
  have HQ3 := Lib.hid (Box.new w3 24 [.int .i64 i1, .int .i64 i2, .int .i64 i3, .int .i64 i4, .int .i64 i5, .slice x3 M.length c3])
  have HVa := Lib.hid (Rd.below (Rd.below HV.out b3) ((br w3).alloc (Nat.le_refl _) (.cells #[.int .i64 i1, .int .i64 i2, .int .i64 i3, .int .i64 i4, .int .i64 i5, .slice x3 M.length c3] 24)))
  have HV3 := Lib.hid (Rd.below hv3 ((br w3).alloc (Nat.le_refl _) (.cells #[.int .i64 i1, .int .i64 i2, .int .i64 i3, .int .i64 i4, .int .i64 i5, .slice x3 M.length c3] 24)))
  clear k0 k1 k2 k3 k4 k5 t0 t1 b3 hv3 HP HP3 HV HB3 HB2a C2 hlt hlt0
  go_wp2_with fail
  refine (CB.out _).mono ?_
  rintro en4 w4 ⟨rfl, b4⟩
  have HB4 := Lib.hid (bt HB3a.out b4)
  have hp := HP3a.out.next b4
  have hq := HQ3.out.next b4
  have y0 := hp.cell 0; have y1 := hp.cell 1; have y2 := hp.cell 2; have y3 := hp.cell 3; have y4 := hp.cell 4; have y5 := hp.cell 5
  simp only [List.getElem?_cons_zero, List.getElem?_cons_succ] at y0 y1 y2 y3 y4 y5
  have z0 := hq.cell 0; have z1 := hq.cell 1; have z2 := hq.cell 2; have z3 := hq.cell 3; have z4 := hq.cell 4; have z5 := hq.cell 5
  simp only [List.getElem?_cons_zero, List.getElem?_cons_succ] at z0 z1 z2 z3 z4 z5
  have HVa4 := Lib.hid (Rd.below HVa.out b4)
  have HV4 := Lib.hid (Rd.below HV3.out b4)
  clear b4 hp hq HP3a HQ3 HVa HV3 HB3a CB
  go_wp2_with fail
  refine (CS.out _ _ _ HVa4.out HV4.out).mono ?_
  rintro en5 w5 ⟨rfl, b5⟩
  have HB5 := Lib.hid (bt HB4.out b5)
  clear b5
  go_wp2
  go_ret
  exact ⟨by first | rfl | (simp; done), HB5.out⟩
end Pa
end Go.Proofs.Ytdacnefklcmckaa
