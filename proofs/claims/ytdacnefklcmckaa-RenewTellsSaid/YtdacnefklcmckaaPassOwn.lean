/- Passes: whose days are its own; has a pass a day. (gen_pass3.py) -/
import Derived.Test.YtdacnefklcmckaaPassNew
import Derived.Test.YtdacnefklcmckaaSpansHas
import Derived.Deep.Cut
set_option linter.unusedSimpArgs false
set_option linter.unusedVariables false
namespace Go.Proofs.Ytdacnefklcmckaa
open Go.RowKit
namespace Pa
open Dt Sn
def rawB (p : Ps) (l : List Sp) (n z : Int) : Bool := hasB l n && (decide (p.a ≤ z) && decide (z ≤ p.b))
set_option maxRecDepth 100000 in
set_option maxHeartbeats 4000000 in
theorem raw_any (p : Ps) (d : Value) (l : List Sp) (n z : Int) (w : World) (h : RdE elS w d l) : Calls Try.prog 30 #[aP p d, .int .i64 n, .int .i64 z] w (BoolQ (rawB p l n z) w) := by
  have C1 := Lib.hid (fun w' (hb : Below w.heap.size w w') => has_fn d l n w' (h.below hb))
  obtain ⟨id, born, a, b, ser⟩ := p
  obtain ⟨x, cap, rfl, _, _, _⟩ := h
  unfold rawB
  generalize chkS l = K at *
  obtain ⟨B, hB⟩ : ∃ B, hasB l n = B := ⟨_, rfl⟩
  rw [hB] at C1 ⊢
  clear hB
  have HA := Lib.hid ((br w).alloc (Nat.le_refl _) (.cells #[.int .i64 id, .int .i64 born, .int .i64 a, .int .i64 b, .int .i64 ser, .slice x l.length cap] 24))
  have hx : Pb (w.alloc (.cells #[.int .i64 id, .int .i64 born, .int .i64 a, .int .i64 b, .int .i64 ser, .slice x l.length cap] 24)) w.heap.size ⟨id, born, a, b, ser⟩ (.slice x l.length cap) := Box.new w _ _
  have HX := Lib.hid hx
  clear hx
  cases B with
  | false =>
    go_enter Try.func30, Try.ntmps30
    go_wp2_with fail
    refine (C1.out _ (by first | exact HA.out | exact bn HA.out _)).mono ?_
    rintro en w2 ⟨rfl, b2⟩
    have HB := Lib.hid (bt HA.out b2)
    have hx := HX.out.next b2
    have k0 := hx.cell 0; have k1 := hx.cell 1; have k2 := hx.cell 2; have k3 := hx.cell 3; have k4 := hx.cell 4; have k5 := hx.cell 5
    simp only [List.getElem?_cons_zero, List.getElem?_cons_succ] at k0 k1 k2 k3 k4 k5
    clear b2 hx HX HA C1
    go_wp2
    go_ret
    exact ⟨rfl, HB.out⟩
  | true =>
    by_cases c : a ≤ z
    · have hr : (true && (decide (a ≤ z) && decide (z ≤ b))) = decide (z ≤ b) := by rw [decide_eq_true c]; rfl
      rw [hr]
      clear hr
      go_enter Try.func30, Try.ntmps30
      go_wp2_with fail
      refine (C1.out _ (by first | exact HA.out | exact bn HA.out _)).mono ?_
      rintro en w2 ⟨rfl, b2⟩
      have HB := Lib.hid (bt HA.out b2)
      have hx := HX.out.next b2
      have k0 := hx.cell 0; have k1 := hx.cell 1; have k2 := hx.cell 2; have k3 := hx.cell 3; have k4 := hx.cell 4; have k5 := hx.cell 5
      simp only [List.getElem?_cons_zero, List.getElem?_cons_succ] at k0 k1 k2 k3 k4 k5
      clear b2 hx HX HA C1
      go_wp2
      go_ret
      exact ⟨rfl, HB.out⟩
    · have hr : (true && (decide (a ≤ z) && decide (z ≤ b))) = false := by rw [decide_eq_false c]; rfl
      rw [hr]
      clear hr
      go_enter Try.func30, Try.ntmps30
      go_wp2_with fail
      refine (C1.out _ (by first | exact HA.out | exact bn HA.out _)).mono ?_
      rintro en w2 ⟨rfl, b2⟩
      have HB := Lib.hid (bt HA.out b2)
      have hx := HX.out.next b2
      have k0 := hx.cell 0; have k1 := hx.cell 1; have k2 := hx.cell 2; have k3 := hx.cell 3; have k4 := hx.cell 4; have k5 := hx.cell 5
      simp only [List.getElem?_cons_zero, List.getElem?_cons_succ] at k0 k1 k2 k3 k4 k5
      clear b2 hx HX HA C1
      go_wp2
      go_ret
      exact ⟨rfl, HB.out⟩
set_option maxRecDepth 100000 in
set_option maxHeartbeats 4000000 in
theorem has_any (p : Ps) (d : Value) (l : List Sp) (n z : Int) (w : World) (h : RdE elS w d l) : Calls Try.prog 11 #[aP p d, .int .i64 n, .int .i64 z] w (fun e w' => e = .returned (.tuple #[.bool (decide (passE p l = 0) && rawB p l n z), .int .i64 (passE p l)]) ∧ Below w.heap.size w w') := by
  have C1 := Lib.hid (fun w' (hb : Below w.heap.size w w') => check_any p d l w' (h.below hb))
  have C2 := Lib.hid (fun w' (hb : Below w.heap.size w w') => raw_any p d l n z w' (h.below hb))
  obtain ⟨id, born, a, b, ser⟩ := p
  obtain ⟨x, cap, rfl, _, _, _⟩ := h
  obtain ⟨B, hB⟩ : ∃ B, rawB ⟨id, born, a, b, ser⟩ l n z = B := ⟨_, rfl⟩
  rw [hB] at C2 ⊢
  clear hB
  obtain ⟨E, hE⟩ : ∃ E, passE ⟨id, born, a, b, ser⟩ l = E := ⟨_, rfl⟩
  rw [hE] at C1 ⊢
  clear hE
  have HA := Lib.hid ((br w).alloc (Nat.le_refl _) (.cells #[.int .i64 id, .int .i64 born, .int .i64 a, .int .i64 b, .int .i64 ser, .slice x l.length cap] 24))
  have hx : Pb (w.alloc (.cells #[.int .i64 id, .int .i64 born, .int .i64 a, .int .i64 b, .int .i64 ser, .slice x l.length cap] 24)) w.heap.size ⟨id, born, a, b, ser⟩ (.slice x l.length cap) := Box.new w _ _
  have HX := Lib.hid hx
  clear hx
  by_cases c : E = 0
  · subst c
    rw [show (decide ((0 : Int) = 0) && B) = B by simp]
    go_enter Try.func11, Try.ntmps11
    go_wp2_with fail
    refine (C1.out _ (by first | exact HA.out | exact bn HA.out _)).mono ?_
    rintro en w2 ⟨rfl, b2⟩
    have HB := Lib.hid (bt HA.out b2)
    have hx := HX.out.next b2
    have k0 := hx.cell 0; have k1 := hx.cell 1; have k2 := hx.cell 2; have k3 := hx.cell 3; have k4 := hx.cell 4; have k5 := hx.cell 5
    simp only [List.getElem?_cons_zero, List.getElem?_cons_succ] at k0 k1 k2 k3 k4 k5
    clear b2 hx HX HA C1
    go_wp2_with fail
    refine (C2.out _ HB.out).mono ?_
    rintro en w3 ⟨rfl, b3⟩
    have HB3 := Lib.hid (bt HB.out b3)
    clear b3
    go_wp2
    go_ret2
    exact ⟨rfl, HB3.out⟩
  · rw [show (decide (E = 0) && B) = false by rw [decide_eq_false c]; rfl]
    have hz : (E == 0) = false := by simpa using c
    go_enter Try.func11, Try.ntmps11
    go_wp2_with fail
    refine (C1.out _ (by first | exact HA.out | exact bn HA.out _)).mono ?_
    rintro en w2 ⟨rfl, b2⟩
    have HB := Lib.hid (bt HA.out b2)
    clear b2
    go_wp2
    go_ret2
    exact ⟨rfl, HB.out⟩
set_option maxHeartbeats 1000000 in
theorem clone_any (v : Value) (xs : List Sp) (w : World) (h : RdE elS w v xs) (hl : xs.length ≤ 1000) : Calls Try.prog 48 #[v] w fun e w' => ∃ v', e = .returned v' ∧ ROwn elS w' w.heap.size v' xs ∧ Below w.heap.size w w' := by
  have H := Lib.hid h
  obtain ⟨a, cap, rfl, h1, h2, h3⟩ := h
  rcases a with _ | ad
  · have hz : xs = [] := by
      rcases xs with _ | ⟨x, xs⟩
      · rfl
      · obtain ⟨b, off, e, _⟩ := h3 (by simp); cases e
    subst hz
    have q : ∀ w, (binOp .eql 22 (.slice none 0 cap) (.slice none 0 0)).run Try.prog w = .ok (.bool true) w := fun w => Lib.run_eql_slice_nil w _ _ none 0 cap 0 0 Try.underlying22
    have hN := Lib.hid (ROwn.nil (E := elS) w w.heap.size)
    clear h3
    show Calls _ _ #[.slice none 0 cap] _ _
    go_enter Try.func48, Try.ntmps48
    go_wp2
    go_ret
    exact ⟨_, rfl, hN.out, br _⟩
  · clear h3
    have q : ∀ w, (binOp .eql 22 (.slice (some ad) xs.length cap) (.slice none 0 0)).run Try.prog w = .ok (.bool false) w := fun w => Lib.run_eql_slice_nil w _ _ (some ad) xs.length cap 0 0 Try.underlying22
    go_enter Try.func48, Try.ntmps48
    go_wp2_with (at_builtin; refine appE elS rfl (.tmp 5) (.tmp 6) rfl w.heap.size _ [] rfl (ROwn.lit0 w w.heap.size w.heap.size rfl (Nat.le_refl _)) _ xs rfl (H.out.below ((br w).alloc (Nat.le_refl _) _)) (by simp [maxLen]; omega) (by simp; omega) (by simp) ?_; intro v1 w5 hown1 hb5 hfar5; have HO1 := Lib.hid hown1; have HB5 := Lib.hid (((br w).alloc (Nat.le_refl _) _).trans hb5); clear hown1 hfar5 hb5)
    go_ret
    exact ⟨_, rfl, HO1.out, HB5.out⟩
set_option maxRecDepth 100000 in
set_option maxHeartbeats 4000000 in
theorem own_any (p : Ps) (d : Value) (l : List Sp) (w : World) (h : RdE elS w d l) (hl : l.length ≤ 1000) : Calls Try.prog 29 #[aP p d] w (fun e w' => ∃ v, e = .returned (aP p v) ∧ RdE elS w' v l ∧ (∀ b, b < w.heap.size → Off v b) ∧ Below w.heap.size w w') := by
  have C1 := Lib.hid (fun w' (hb : Below w.heap.size w w') => clone_any d l w' (h.below hb) hl)
  obtain ⟨id, born, a, b, ser⟩ := p
  obtain ⟨x, cap, rfl, _, _, _⟩ := h
  have HA := Lib.hid (((br w).alloc (Nat.le_refl _) (.cells #[.int .i64 id, .int .i64 born, .int .i64 a, .int .i64 b, .int .i64 ser, .slice x l.length cap] 24)).alloc (by simp) (.cells #[.int .i64 0, .int .i64 0, .int .i64 0, .int .i64 0, .int .i64 0, .slice none 0 0] 24))
  have hx : Pb (w.alloc (.cells #[.int .i64 id, .int .i64 born, .int .i64 a, .int .i64 b, .int .i64 ser, .slice x l.length cap] 24)) w.heap.size ⟨id, born, a, b, ser⟩ (.slice x l.length cap) := Box.new w _ _
  have HX := Lib.hid (Box.alloc hx (.cells #[.int .i64 0, .int .i64 0, .int .i64 0, .int .i64 0, .int .i64 0, .slice none 0 0] 24))
  have hy : Pb ((w.alloc (.cells #[.int .i64 id, .int .i64 born, .int .i64 a, .int .i64 b, .int .i64 ser, .slice x l.length cap] 24)).alloc (.cells #[.int .i64 0, .int .i64 0, .int .i64 0, .int .i64 0, .int .i64 0, .slice none 0 0] 24)) (w.alloc (.cells #[.int .i64 id, .int .i64 born, .int .i64 a, .int .i64 b, .int .i64 ser, .slice x l.length cap] 24)).heap.size ⟨0, 0, 0, 0, 0⟩ (.slice none 0 0) := Box.new _ _ _
  rw [asz] at hy
  have HY := Lib.hid hy
  clear hy hx
  go_enter Try.func29, Try.ntmps29
  go_wp2_with fail
  refine (C1.out _ (by first | exact HA.out | exact bn HA.out _)).mono ?_
  rintro en w2 ⟨v2, rfl, ho2, b2⟩
  have HB := Lib.hid (bt HA.out b2)
  have hx := HX.out.next b2
  have hy := HY.out.next b2
  have hlt := hy.lt
  have hlt0 := hx.lt
  have HO2 := Lib.hid (fun b (hb : b < w.heap.size + 2) => off_own ho2 (b := b) (by simp; omega))
  have HV2 := Lib.hid ho2.rd
  obtain ⟨x2, cap2, rfl, _, _, _⟩ := ho2.rd
  clear ho2
  have k0 := hx.cell 0; have k1 := hx.cell 1; have k2 := hx.cell 2; have k3 := hx.cell 3; have k4 := hx.cell 4; have k5 := hx.cell 5
  simp only [List.getElem?_cons_zero, List.getElem?_cons_succ] at k0 k1 k2 k3 k4 k5
  have f0 := hx.froz 0; have f1 := hx.froz 1; have f2 := hx.froz 2; have f3 := hx.froz 3; have f4 := hx.froz 4; have f5 := hx.froz 5
  have HX3 := Lib.hid (hx.set 5 (.slice x2 l.length cap2))
  have HY3 := Lib.hid (hy.other w.heap.size 5 (.slice x2 l.length cap2) (by omega))
  have HB3 := Lib.hid (HB.out.setCell (p := ⟨w.heap.size, 5, none⟩) (Nat.le_refl _) (.slice x2 l.length cap2))
  have HV3 := Lib.hid (rd_put HV2.out (HO2.out w.heap.size (by omega)) 5 (.slice x2 l.length cap2))
  clear b2 hx hy HX HY HA HB HV2 C1
  go_upto_region 2 with (fail)
  generalize w2.setCell ⟨w.heap.size, 5, none⟩ (.slice x2 l.length cap2) = W3 at HX3 HY3 HB3 HV3 ⊢
  clear k0 k1 k2 k3 k4 k5 f0 f1 f2 f3 f4 f5 hlt hlt0
  have hx := HX3.out
  have hy := HY3.out
  have hlt := hy.lt
  simp only [List.set_cons_zero, List.set_cons_succ] at hx
  have k0 := hx.cell 0; have k1 := hx.cell 1; have k2 := hx.cell 2; have k3 := hx.cell 3; have k4 := hx.cell 4; have k5 := hx.cell 5
  simp only [List.getElem?_cons_zero, List.getElem?_cons_succ] at k0 k1 k2 k3 k4 k5
  have z0 := hy.cell 0; have z1 := hy.cell 1; have z2 := hy.cell 2; have z3 := hy.cell 3; have z4 := hy.cell 4; have z5 := hy.cell 5
  simp only [List.getElem?_cons_zero, List.getElem?_cons_succ] at z0 z1 z2 z3 z4 z5
  have f0 := hy.froz 0; have f1 := hy.froz 1; have f2 := hy.froz 2; have f3 := hy.froz 3; have f4 := hy.froz 4; have f5 := hy.froz 5
  clear hx hy
  go_wp2
  have P := Pb.put HY3.out ⟨id, born, a, b, ser⟩ (.slice x2 l.length cap2)
  have Q := below6 HB3.out (b := w.heap.size + 1) (by omega) (.int .i64 id) (.int .i64 born) (.int .i64 a) (.int .i64 b) (.int .i64 ser) ((.slice x2 l.length cap2))
  have R := rd_put6 (b := w.heap.size + 1) HV3.out (HO2.out _ (by omega)) (.int .i64 id) (.int .i64 born) (.int .i64 a) (.int .i64 b) (.int .i64 ser) ((.slice x2 l.length cap2))
  generalize (((((W3.setCell ⟨w.heap.size + 1, 0, none⟩ (.int .i64 id)).setCell ⟨w.heap.size + 1, 1, none⟩ (.int .i64 born)).setCell ⟨w.heap.size + 1, 2, none⟩ (.int .i64 a)).setCell ⟨w.heap.size + 1, 3, none⟩ (.int .i64 b)).setCell ⟨w.heap.size + 1, 4, none⟩ (.int .i64 ser)).setCell ⟨w.heap.size + 1, 5, none⟩ ((.slice x2 l.length cap2)) = W2 at P Q R ⊢
  have y0 := P.cell 0; have y1 := P.cell 1; have y2 := P.cell 2; have y3 := P.cell 3; have y4 := P.cell 4; have y5 := P.cell 5
  simp only [List.getElem?_cons_zero, List.getElem?_cons_succ] at y0 y1 y2 y3 y4 y5
  refine bodyPost_ret (v := aP ⟨id, born, a, b, ser⟩ (.slice x2 l.length cap2)) (by simp [results, Try.results29, go_sem, y0, y1, y2, y3, y4, y5]) rfl ⟨_, rfl, R, fun b hb => HO2.out b (by omega), Q⟩
end Pa
end Go.Proofs.Ytdacnefklcmckaa
