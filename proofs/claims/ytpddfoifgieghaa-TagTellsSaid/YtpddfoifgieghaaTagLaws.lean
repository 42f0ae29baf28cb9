/- The laws on tags: what must be in any case; a round loses nothing. -/
import Derived.Test.YtpddfoifgieghaaTagEq
import Derived.Deep.RegionHeld3
set_option linter.unusedVariables false
namespace Go.Proofs.Ytpddfoifgieghaa
open Go.RowKit
namespace Tg
set_option maxHeartbeats 2000000 in
theorem begun_any (w : World) : Calls Try.prog 12 #[] w fun e w' => e = .returned (.bool true) ∧ Below w.heap.size w w' := by
  have E1 := Lib.hid tag_0; have E2 := Lib.hid tag_1; have E3 := Lib.hid tag_15
  have k1 : (506097522914230528 : Int) = wi 506097522914230528 := by decide +kernel
  have k2 : (1084818905618843912 : Int) = wi 1084818905618843912 := by decide +kernel
  have v1 : wi (8246050544436514353 : W64) = 8246050544436514353 := by decide +kernel
  have v2 : wi (8428550223375919101 : W64) = 8428550223375919101 := by decide +kernel
  have v3 : wi (11613035633349379557 : W64) = 11613035633349379557 := by decide +kernel
  have V1 := Lib.hid v1; have V2 := Lib.hid v2; have V3 := Lib.hid v3; have K1 := Lib.hid k1; have K2 := Lib.hid k2
  clear k1 k2 v1 v2 v3
  have hk : Value.agg #[.int .u64 506097522914230528, .int .u64 1084818905618843912] = aK 506097522914230528 1084818905618843912 := by unfold aK; rw [← K1.out, ← K2.out]
  have HK := Lib.hid hk; clear hk
  go_enter Try.func12, Try.ntmps12
  go_wp2_with fail
  rw [HK.out]
  refine (of_any _ _ ⟨#[]⟩ _ (by decide)).mono ?_
  rintro en w1 ⟨rfl, hb1⟩
  rw [show tagF 506097522914230528 1084818905618843912 (⟨#[]⟩ : ByteArray).data.toList = 8246050544436514353 from E1.out, V1.out]
  have H1 := bt ((br w).alloc (Nat.le_refl _) _) hb1
  have q1 := boxc (bx hb1)
  have l1 := boxs (bx hb1)
  have c0 := q1 0; have c1 := q1 1
  simp only [List.getElem?_toArray, List.getElem?_cons_zero, List.getElem?_cons_succ] at c0 c1
  have C0 := Lib.hid c0; have C1 := Lib.hid c1
  clear q1
  go_wp2_with fail
  rw [HK.out]
  refine (of_any _ _ ⟨#[0]⟩ _ (by decide)).mono ?_
  rintro en w2 ⟨rfl, hb2⟩
  rw [show tagF 506097522914230528 1084818905618843912 (⟨#[0]⟩ : ByteArray).data.toList = 8428550223375919101 from E2.out, V2.out]
  have H2 := bt H1 hb2
  clear c0 c1
  have c0 := kp hb2 C0.out; have c1 := kp hb2 C1.out
  go_wp2_with fail
  rw [HK.out]
  refine (of_any _ _ ⟨#[0, 1, 2, 3, 4, 5, 6, 7, 8, 9, 10, 11, 12, 13, 14]⟩ _ (by decide)).mono ?_
  rintro en w3 ⟨rfl, hb3⟩
  rw [show tagF 506097522914230528 1084818905618843912 (⟨#[0, 1, 2, 3, 4, 5, 6, 7, 8, 9, 10, 11, 12, 13, 14]⟩ : ByteArray).data.toList = 11613035633349379557 from E3.out, V3.out]
  go_wp2
  go_ret
  exact ⟨by first | rfl | simp, bt H2 hb3⟩
theorem box4 {w w3 : World} {v : S} {t : TypeId} (hB : Below (w.heap.size + 1) (w.alloc (.cells #[.int .u64 (wi v.a), .int .u64 (wi v.b), .int .u64 (wi v.c), .int .u64 (wi v.d)] t)) w3) : w3.cell? ⟨w.heap.size, 0, none⟩ = some (.int .u64 (wi v.a)) ∧ w3.cell? ⟨w.heap.size, 1, none⟩ = some (.int .u64 (wi v.b)) ∧ w3.cell? ⟨w.heap.size, 2, none⟩ = some (.int .u64 (wi v.c)) ∧ w3.cell? ⟨w.heap.size, 3, none⟩ = some (.int .u64 (wi v.d)) :=
  ⟨boxc hB 0, boxc hB 1, boxc hB 2, boxc hB 3⟩
theorem rnd_x (v : S) (w : World) : Calls Try.prog 25 #[.agg #[.int .u64 (wi v.a), .int .u64 (wi v.b), .int .u64 (wi v.c), .int .u64 (wi v.d)]] w fun e w' => e = .returned (.agg #[.int .u64 (wi (round v).a), .int .u64 (wi (round v).b), .int .u64 (wi (round v).c), .int .u64 (wi (round v).d)]) ∧ Below w.heap.size w w' := rnd_any v w
theorem back_x (v : S) (w : World) : Calls Try.prog 32 #[.agg #[.int .u64 (wi v.a), .int .u64 (wi v.b), .int .u64 (wi v.c), .int .u64 (wi v.d)]] w fun e w' => e = .returned (.agg #[.int .u64 (wi (back v).a), .int .u64 (wi (back v).b), .int .u64 (wi (back v).c), .int .u64 (wi (back v).d)]) ∧ Below w.heap.size w w' := back_any v w
theorem take_x (v : S) (m : W64) (w : World) : Calls Try.prog 15 #[.agg #[.int .u64 (wi v.a), .int .u64 (wi v.b), .int .u64 (wi v.c), .int .u64 (wi v.d)], .int .u64 (wi m)] w fun e w' => e = .returned (.agg #[.int .u64 (wi (take v m).a), .int .u64 (wi (take v m).b), .int .u64 (wi (take v m).c), .int .u64 (wi (take v m).d)]) ∧ Below w.heap.size w w' := take_any v m w
theorem back_rnd (v : S) (w : World) : Calls Try.prog 32 #[.agg #[.int .u64 (wi (round v).a), .int .u64 (wi (round v).b), .int .u64 (wi (round v).c), .int .u64 (wi (round v).d)]] w fun e w' => e = .returned (.agg #[.int .u64 (wi v.a), .int .u64 (wi v.b), .int .u64 (wi v.c), .int .u64 (wi v.d)]) ∧ Below w.heap.size w w' := by
  have := back_x (round v) w; rw [back_round] at this; exact this
theorem rnd_back (v : S) (w : World) : Calls Try.prog 25 #[.agg #[.int .u64 (wi (back v).a), .int .u64 (wi (back v).b), .int .u64 (wi (back v).c), .int .u64 (wi (back v).d)]] w fun e w' => e = .returned (.agg #[.int .u64 (wi v.a), .int .u64 (wi v.b), .int .u64 (wi v.c), .int .u64 (wi v.d)]) ∧ Below w.heap.size w w' := by
  have := rnd_x (back v) w; rw [round_back] at this; exact this
set_option maxHeartbeats 2000000 in
theorem back_walk (v : S) (w : World) : Calls Try.prog 11 #[aS v] w fun e w' => e = .returned (.bool true) ∧ Below w.heap.size w w' := by
  have B1 := Lib.hid (back_round v); have B2 := Lib.hid (round_back v)
  obtain ⟨a, ha⟩ : ∃ a, aS v = a := ⟨_, rfl⟩
  have hA : a = .agg #[.int .u64 (wi v.a), .int .u64 (wi v.b), .int .u64 (wi v.c), .int .u64 (wi v.d)] := by rw [← ha]; rfl
  rw [ha, hA]
  clear hA ha
  have hq : ∀ w, Sem.run Try.prog (binOp .eql 26 (.agg #[.int .u64 (wi v.a), .int .u64 (wi v.b), .int .u64 (wi v.c), .int .u64 (wi v.d)]) (.agg #[.int .u64 (wi v.a), .int .u64 (wi v.b), .int .u64 (wi v.c), .int .u64 (wi v.d)])) w = .ok (.bool true) w := fun w => by rw [eq4, decide_eq_true rfl]
  have hgd : Try.prog.eqGuardType Try.prog.depth 26 = false := by kernel_rfl
  go_enter Try.func11, Try.ntmps11
  go_wp2_with fail
  have bb := box4 (v := v) (t := 26) (Below.refl (w.heap.size + 1) (w.alloc (.cells #[.int .u64 (wi v.a), .int .u64 (wi v.b), .int .u64 (wi v.c), .int .u64 (wi v.d)] 26)))
  have HB0 : Below w.heap.size w (w.alloc (.cells #[.int .u64 (wi v.a), .int .u64 (wi v.b), .int .u64 (wi v.c), .int .u64 (wi v.d)] 26)) := (br w).alloc (Nat.le_refl _) _
  generalize w.alloc (.cells #[.int .u64 (wi v.a), .int .u64 (wi v.b), .int .u64 (wi v.c), .int .u64 (wi v.d)] 26) = wx at *
  generalize hob : w.heap.size = ob at *
  have HOB := Lib.hid hob; clear hob
  obtain ⟨b0, b1, b2, b3⟩ := bb
  go_region_held3 (fun w' => w'.cell? ⟨ob, 0, none⟩ = some (.int .u64 (wi v.a)) ∧ w'.cell? ⟨ob, 1, none⟩ = some (.int .u64 (wi v.b)) ∧ w'.cell? ⟨ob, 2, none⟩ = some (.int .u64 (wi v.c)) ∧ w'.cell? ⟨ob, 3, none⟩ = some (.int .u64 (wi v.d)))
    (first | go_keep | (go_split_ands; (repeat' apply And.intro) <;> first | assumption | exact kp hbe (by assumption) | exact kp hbd (by assumption) | exact kp hbc (by assumption) | exact kp hbb (by assumption) | exact kp hba (by assumption)))
    (first
      | (go_at_call 12; refine (begun_any _).mono ?_; rintro en wa ⟨rfl, hba⟩)
      | (go_at_call 25; (with_reducible refine (rnd_x v _).mono ?_); rintro en wb ⟨rfl, hbb⟩)
      | (go_at_call 32; (with_reducible refine (back_rnd v _).mono ?_); rintro en wc ⟨rfl, hbc⟩)
      | (go_at_call 32; (with_reducible refine (back_x v _).mono ?_); rintro en wd ⟨rfl, hbd⟩)
      | (go_at_call 25; (with_reducible refine (rnd_back v _).mono ?_); rintro en we ⟨rfl, hbe⟩))
  go_wp2
  go_ret
  have := HOB.out
  subst this
  exact ⟨rfl, bt (bt (bt (bt (bd HB0 hba) hbb) hbc) hbd) hbe⟩
end Tg
end Go.Proofs.Ytpddfoifgieghaa
