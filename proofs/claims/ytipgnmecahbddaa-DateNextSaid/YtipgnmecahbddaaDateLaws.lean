/- The statements on dates: the law functions are walked with the contracts of their callees. -/
import Derived.Test.YtipgnmecahbddaaDateRef4
namespace Go.Proofs.Ytipgnmecahbddaa
open Go.RowKit
namespace Dt
set_option maxHeartbeats 400000 in
theorem dayL_any (y m d : Int) (w : World) : Calls Try.prog 25 #[.int .i64 y, .int .i64 m, .int .i64 d] w fun e w' => e = .returned (.agg #[.int .i64 y, .int .i64 m, .int .i64 d]) ∧ Below w.heap.size w w' := by
  go_enter Try.func25, Try.ntmps25
  go_wp2
  refine bodyPost_ret (v := .agg #[.int .i64 y, .int .i64 m, .int .i64 d]) (by simp [results, Try.results25, go_sem]) rfl ⟨rfl, ?_⟩
  exact (br _).alloc (Nat.le_refl _) _
set_option maxHeartbeats 2000000 in
theorem begun_any (w : World) : Calls Try.prog 21 #[] w fun e w' => e = .returned (.bool true) ∧ Below w.heap.size w w' := by
  have E1 := Lib.hid (show dayOf 2026 11 16 = (739936, 0) by decide)
  have E2 := Lib.hid (show ofF 730120 = ((2000, 1, 1), 0) by decide)
  have E3 := Lib.hid (show weekF 739936 = ((2026, 47, 1), 0) by decide)
  have E4 := Lib.hid (show ofWeek 2026 53 7 = (739984, 0) by decide)
  have E5 := Lib.hid (show ofF 739984 = ((2027, 1, 3), 0) by decide)
  have E6 := Lib.hid (show dayOf 2026 2 29 = (0, 3) by decide)
  have E7 := Lib.hid (show dayOf 9999 12 31 = (3652059, 0) by decide)
  have E8 := Lib.hid (show leapB 2000 = true by decide)
  have E9 := Lib.hid (show leapB 1900 = false by decide)
  go_enter Try.func21, Try.ntmps21
  go_wp2_with fail
  refine (dayL_any _ _ _ _).mono ?_
  rintro en w1 ⟨rfl, hb1⟩
  go_wp2_with fail
  refine (day_any _ _ _ _).mono ?_
  rintro en w2 ⟨rfl, hb2⟩
  rw [E1.out]
  have H2 := bt hb1 hb2
  go_wp2_with fail
  refine (of_any _ _).mono ?_
  rintro en w3 ⟨rfl, hb3⟩
  rw [E2.out]; simp only [aD]
  have H3 := bt H2 hb3
  go_wp2_with fail
  refine (week_any _ _).mono ?_
  rintro en w4 ⟨rfl, hb4⟩
  rw [E3.out]; simp only [aD]
  have H4 := bt (H3.alloc H3.size _) hb4
  have k1 := boxc (bx hb4)
  have l1 := boxs (bx hb4)
  go_wp2_with fail
  refine (ofWeek_any _ _ _ _).mono ?_
  rintro en w5 ⟨rfl, hb5⟩
  rw [E4.out]
  have n5 := bt ((br _).alloc (Nat.le_refl _) _) hb5
  have H5 := bt H4 n5
  have k2 := boxc (bx hb5)
  have l2 := boxs (bx hb5)
  have k1 := kc n5 l1 k1
  have l1 := kl n5 l1
  go_wp2_with fail
  refine (of_any _ _).mono ?_
  rintro en w6 ⟨rfl, hb6⟩
  rw [E5.out]; simp only [aD]
  have H6 := bt H5 hb6
  have k1 := kc hb6 l1 k1
  have l1 := kl hb6 l1
  have k2 := kc hb6 l2 k2
  have l2 := kl hb6 l2
  go_wp2_with fail
  refine (dayL_any _ _ _ _).mono ?_
  rintro en w7 ⟨rfl, hb7⟩
  have n7 := bt ((br _).alloc (Nat.le_refl _) _) hb7
  have H7 := bt H6 n7
  have k3 := boxc (bx hb7)
  have l3 := boxs (bx hb7)
  have k1 := kc n7 l1 k1
  have l1 := kl n7 l1
  have k2 := kc n7 l2 k2
  have l2 := kl n7 l2
  go_wp2_with fail
  refine (day_any _ _ _ _).mono ?_
  rintro en w8 ⟨rfl, hb8⟩
  rw [E6.out]
  have H8 := bt H7 hb8
  have k1 := kc hb8 l1 k1
  have l1 := kl hb8 l1
  have k2 := kc hb8 l2 k2
  have l2 := kl hb8 l2
  have k3 := kc hb8 l3 k3
  have l3 := kl hb8 l3
  go_wp2_with fail
  refine (dayL_any _ _ _ _).mono ?_
  rintro en w9 ⟨rfl, hb9⟩
  have H9 := bt H8 hb9
  have k1 := kc hb9 l1 k1
  have l1 := kl hb9 l1
  have k2 := kc hb9 l2 k2
  have l2 := kl hb9 l2
  have k3 := kc hb9 l3 k3
  have l3 := kl hb9 l3
  go_wp2_with fail
  refine (day_any _ _ _ _).mono ?_
  rintro en wa ⟨rfl, hba⟩
  rw [E7.out]
  have HA := bt H9 hba
  have k1 := kc hba l1 k1
  have l1 := kl hba l1
  have k2 := kc hba l2 k2
  have l2 := kl hba l2
  have k3 := kc hba l3 k3
  have l3 := kl hba l3
  go_wp2_with fail
  have c10 := k1 0; have c11 := k1 1; have c12 := k1 2
  have c20 := k2 0; have c21 := k2 1; have c22 := k2 2
  have c30 := k3 0; have c31 := k3 1; have c32 := k3 2
  simp only [List.getElem?_toArray, List.getElem?_cons_zero, List.getElem?_cons_succ] at c10 c11 c12 c20 c21 c22 c30 c31 c32
  clear k1 k2 k3
  go_region_held3 (fun w' => w'.cell? ⟨w3.heap.size, 0, none⟩ = some (.int .i64 2000) ∧ w'.cell? ⟨w3.heap.size, 1, none⟩ = some (.int .i64 1) ∧ w'.cell? ⟨w3.heap.size, 2, none⟩ = some (.int .i64 1) ∧ w'.cell? ⟨w4.heap.size, 0, none⟩ = some (.int .i64 2026) ∧ w'.cell? ⟨w4.heap.size, 1, none⟩ = some (.int .i64 47) ∧ w'.cell? ⟨w4.heap.size, 2, none⟩ = some (.int .i64 1) ∧ w'.cell? ⟨w6.heap.size, 0, none⟩ = some (.int .i64 2027) ∧ w'.cell? ⟨w6.heap.size, 1, none⟩ = some (.int .i64 1) ∧ w'.cell? ⟨w6.heap.size, 2, none⟩ = some (.int .i64 3))
    (first | go_keep | (go_split_ands; (repeat' apply And.intro) <;> first | assumption | exact kp hbb (by assumption) | exact kp hbc (by assumption)))
    (first
      | (go_at_call 25; (with_reducible refine (dayL_any 2000 1 1 _).mono ?_); rintro en wc ⟨rfl, hbc⟩)
      | (go_at_call 25; (with_reducible refine (dayL_any 2027 1 3 _).mono ?_); rintro en wb ⟨rfl, hbb⟩)
      | (go_at_call 22; refine (leap_any _ _).mono ?_; rintro en wb ⟨rfl, rfl⟩))
  go_wp2
  go_ret
  clear c10 c11 c12 c20 c21 c22 c30 c31 c32
  refine ⟨?_, ?_⟩
  · show Ending.returned (.bool (!leapB 1900)) = _
    rw [E9.out]; rfl
  · exact bt (bd HA hbc) hbb
end Dt
end Go.Proofs.Ytipgnmecahbddaa
