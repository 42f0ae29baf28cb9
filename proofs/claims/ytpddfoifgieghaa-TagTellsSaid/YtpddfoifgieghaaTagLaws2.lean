/- What differs before a word is taken differs behind it. -/
import Derived.Test.YtpddfoifgieghaaTagLaws
import Derived.Deep.CutRange
import Derived.Deep.RegionHeld3
set_option linter.unusedVariables false
namespace Go.Proofs.Ytpddfoifgieghaa
open Go.RowKit
namespace Tg
set_option maxHeartbeats 4000000 in
theorem apart_walk (v u : S) (m : W64) (w : World) : Calls Try.prog 10 #[aS v, aS u, .int .u64 (wi m)] w fun e w' => e = .returned (.bool true) ∧ Below w.heap.size w w' := by
  have hb : decide (take v m = take u m) = decide (v = u) := by
    by_cases h : v = u
    · subst h; rw [decide_eq_true rfl, decide_eq_true rfl]
    · rw [decide_eq_false h, decide_eq_false (fun e => h (take_inj v u m e))]
  obtain ⟨bb, hbb⟩ : ∃ b, decide (v = u) = b := ⟨_, rfl⟩
  rw [hbb] at hb
  have hq1 : ∀ w, Sem.run Try.prog (binOp .eql 26 (.agg #[.int .u64 (wi (take v m).a), .int .u64 (wi (take v m).b), .int .u64 (wi (take v m).c), .int .u64 (wi (take v m).d)]) (.agg #[.int .u64 (wi (take u m).a), .int .u64 (wi (take u m).b), .int .u64 (wi (take u m).c), .int .u64 (wi (take u m).d)])) w = .ok (.bool bb) w := fun w => by rw [eq4, hb]
  have hq2 : ∀ w, Sem.run Try.prog (binOp .eql 26 (.agg #[.int .u64 (wi v.a), .int .u64 (wi v.b), .int .u64 (wi v.c), .int .u64 (wi v.d)]) (.agg #[.int .u64 (wi u.a), .int .u64 (wi u.b), .int .u64 (wi u.c), .int .u64 (wi u.d)])) w = .ok (.bool bb) w := fun w => by rw [eq4, hbb]
  have hq3 : ∀ w, Sem.run Try.prog (binOp .eql 26 (.agg #[.int .u64 (wi v.a), .int .u64 (wi v.b), .int .u64 (wi v.c), .int .u64 (wi v.d)]) (.agg #[.int .u64 (wi v.a), .int .u64 (wi v.b), .int .u64 (wi v.c), .int .u64 (wi v.d)])) w = .ok (.bool true) w := fun w => by rw [eq4, decide_eq_true rfl]
  have hgd : Try.prog.eqGuardType Try.prog.depth 26 = false := by kernel_rfl
  have Q1 := Lib.hid hq1; have Q2 := Lib.hid hq2; have Q3 := Lib.hid hq3
  have htb := take_back v m
  have HTB := Lib.hid htb
  clear hb hbb hq1 hq2 hq3 htb
  unfold aS
  have x1 := xor_w (take v m).a m
  have X1 := Lib.hid x1; clear x1
  go_enter Try.func10, Try.ntmps10
  go_wp2_with fail
  refine (take_x v m _).mono ?_
  rintro en w1 ⟨rfl, hb1⟩
  have hbv := hb1
  have HB1 : Below w.heap.size w w1 := Below.trans (((br w).alloc (Nat.le_refl _) _).alloc (by simp) _) (hb1.mono (by simp <;> omega))
  have bxv : w1.cell? ⟨w.heap.size, 0, none⟩ = some (.int .u64 (wi v.a)) ∧ w1.cell? ⟨w.heap.size, 1, none⟩ = some (.int .u64 (wi v.b)) ∧ w1.cell? ⟨w.heap.size, 2, none⟩ = some (.int .u64 (wi v.c)) ∧ w1.cell? ⟨w.heap.size, 3, none⟩ = some (.int .u64 (wi v.d)) :=
    box4 (t := 26) (Below.trans ((Below.refl (w.heap.size + 1) (w.alloc (.cells #[.int .u64 (wi v.a), .int .u64 (wi v.b), .int .u64 (wi v.c), .int .u64 (wi v.d)] 26))).alloc (by simp) _) (hb1.mono (by simp <;> omega)))
  have bxu : w1.cell? ⟨w.heap.size + 1, 0, none⟩ = some (.int .u64 (wi u.a)) ∧ w1.cell? ⟨w.heap.size + 1, 1, none⟩ = some (.int .u64 (wi u.b)) ∧ w1.cell? ⟨w.heap.size + 1, 2, none⟩ = some (.int .u64 (wi u.c)) ∧ w1.cell? ⟨w.heap.size + 1, 3, none⟩ = some (.int .u64 (wi u.d)) := by
    have := box4 (w := w.alloc (.cells #[.int .u64 (wi v.a), .int .u64 (wi v.b), .int .u64 (wi v.c), .int .u64 (wi v.d)] 26)) (v := u) (t := 26) (hb1.mono (by simp))
    simpa using this
  have l1 : w.heap.size + 1 < w1.heap.size := by have := hb1.size; simp at this; omega
  obtain ⟨tt, htt⟩ : ∃ tt : S, tt = ⟨(take v m).a ^^^ m, (take v m).b, (take v m).c, (take v m).d⟩ := ⟨_, rfl⟩
  have hst : S4 w1.heap.size w1 (w1.alloc (.cells #[.int .u64 (wi ((take v m).a ^^^ m)), .int .u64 (wi (take v m).b), .int .u64 (wi (take v m).c), .int .u64 (wi (take v m).d)] 26)) w1.heap.size tt := by
    rw [htt]; exact st4 w1 ⟨(take v m).a ^^^ m, (take v m).b, (take v m).c, (take v m).d⟩ _
  have x1 := X1.out
  have HST := Lib.hid hst
  obtain ⟨r, hr⟩ : ∃ r, back (back tt) = r := ⟨_, rfl⟩
  have hv : (⟨r.a, r.b, r.c, r.d ^^^ m⟩ : S) = v := by rw [← hr, htt]; exact HTB.out
  have HV := Lib.hid hv; have HR := Lib.hid hr
  have BV := Lib.hid bxv; have BU := Lib.hid bxu
  clear hst htt bxv bxu hb1 hbv hv hr HTB
  go_upto_region 3 with (fail)
  have h0 := HST.out
  generalize w1.alloc (.cells #[.int .u64 (wi ((take v m).a ^^^ m)), .int .u64 (wi (take v m).b), .int .u64 (wi (take v m).c), .int .u64 (wi (take v m).d)] 26) = wa at *
  have hBa : Below w1.heap.size w1 wa := h0.below
  have c0 := h0.c0; have c1 := h0.c1; have c2 := h0.c2; have c3 := h0.c3
  have H0 := Lib.hid h0
  clear h0 HST x1 X1
  go_wp2_with fail
  refine (back_x tt _).mono ?_
  rintro en w2 ⟨rfl, hb2⟩
  go_wp2_with fail
  refine (back_x (back tt) _).mono ?_
  rintro en w3 ⟨rfl, hb3⟩
  rw [HR.out]
  have h3 := (H0.out.next hb2 (by have := hBa.size; omega)).next hb3 (by have := hBa.size; have := hb2.size; omega)
  have f0 := h3.fr 0; have f1 := h3.fr 1; have f2 := h3.fr 2; have f3 := h3.fr 3
  have d0 := h3.c0; have d1 := h3.c1; have d2 := h3.c2; have d3 := h3.c3
  have h4 := (h3.put r).set3 (r.d ^^^ m)
  rw [HV.out] at h4
  unfold set4 at h4
  have H4 := Lib.hid h4
  have x2 := xor_w r.d m
  clear h3 h4 c0 c1 c2 c3 hb2 hb3 H0
  go_upto_region 5 with (fail)
  have h4 := H4.out
  generalize ((((w3.setCell ⟨w1.heap.size, 0, none⟩ (.int .u64 (wi r.a))).setCell ⟨w1.heap.size, 1, none⟩ (.int .u64 (wi r.b))).setCell ⟨w1.heap.size, 2, none⟩ (.int .u64 (wi r.c))).setCell ⟨w1.heap.size, 3, none⟩ (.int .u64 (wi r.d))).setCell ⟨w1.heap.size, 3, none⟩ (.int .u64 (wi (r.d ^^^ m))) = wz at *
  have g0 := h4.c0; have g1 := h4.c1; have g2 := h4.c2; have g3 := h4.c3
  have hz := h4.below
  have bv := BV.out; have bu := BU.out
  have v0 := kp hz bv.1; have v1 := kp hz bv.2.1; have v2 := kp hz bv.2.2.1; have v3 := kp hz bv.2.2.2
  have u0 := kp hz bu.1; have u1 := kp hz bu.2.1; have u2 := kp hz bu.2.2.1; have u3 := kp hz bu.2.2.2
  have HZ := bt HB1 hz
  clear h4 H4 d0 d1 d2 d3 f0 f1 f2 f3 x2 hz bv bu BV BU HV HR
  have hq1 := Q1.out; have hq2 := Q2.out; have hq3 := Q3.out
  cases bb
  all_goals
    go_region_held3 (fun w' => w'.cell? ⟨w.heap.size, 0, none⟩ = some (.int .u64 (wi v.a)) ∧ w'.cell? ⟨w.heap.size, 1, none⟩ = some (.int .u64 (wi v.b)) ∧ w'.cell? ⟨w.heap.size, 2, none⟩ = some (.int .u64 (wi v.c)) ∧ w'.cell? ⟨w.heap.size, 3, none⟩ = some (.int .u64 (wi v.d)) ∧ w'.cell? ⟨w.heap.size + 1, 0, none⟩ = some (.int .u64 (wi u.a)) ∧ w'.cell? ⟨w.heap.size + 1, 1, none⟩ = some (.int .u64 (wi u.b)) ∧ w'.cell? ⟨w.heap.size + 1, 2, none⟩ = some (.int .u64 (wi u.c)) ∧ w'.cell? ⟨w.heap.size + 1, 3, none⟩ = some (.int .u64 (wi u.d)) ∧ w'.cell? ⟨w1.heap.size, 0, none⟩ = some (.int .u64 (wi v.a)) ∧ w'.cell? ⟨w1.heap.size, 1, none⟩ = some (.int .u64 (wi v.b)) ∧ w'.cell? ⟨w1.heap.size, 2, none⟩ = some (.int .u64 (wi v.c)) ∧ w'.cell? ⟨w1.heap.size, 3, none⟩ = some (.int .u64 (wi v.d)))
      (first | go_keep | (go_split_ands; (repeat' apply And.intro) <;> first | assumption | exact kp hbd (by assumption) | exact kp hbc (by assumption) | exact kp hba (by assumption)))
      (first
        | (go_at_call 12; refine (begun_any _).mono ?_; rintro en wb ⟨rfl, hba⟩)
        | (go_at_call 15; (with_reducible refine (take_x v m _).mono ?_); rintro en wc ⟨rfl, hbc⟩)
        | (go_at_call 15; (with_reducible refine (take_x u m _).mono ?_); rintro en wd ⟨rfl, hbd⟩))
    all_goals
      go_wp2
      go_ret
      refine ⟨?_, ?_⟩
      · first | rfl | (simp; done)
      · first | exact bt (bt (bd HZ hba) hbc) hbd | exact bt (bt (bd HZ hba) hbd) hbc
end Tg
end Go.Proofs.Ytpddfoifgieghaa
