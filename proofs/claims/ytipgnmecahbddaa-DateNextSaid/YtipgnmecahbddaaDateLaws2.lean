/- The statements on dates, second part. -/
import Derived.Test.YtipgnmecahbddaaDateLaws
namespace Go.Proofs.Ytipgnmecahbddaa
open Go.RowKit
namespace Dt
def LT (w : World) (e : Ending) (w' : World) : Prop := e = .returned (.bool true) ∧ Below w.heap.size w w'
set_option maxHeartbeats 2000000 in
theorem tells_walk (y m d n : Int) (w : World) : Calls Try.prog 5 #[.agg #[.int .i64 y, .int .i64 m, .int .i64 d], .int .i64 n] w (LT w) := by
  obtain ⟨a, ha⟩ : ∃ a, a = (dayOf y m d).1 := ⟨_, rfl⟩
  obtain ⟨e, he⟩ : ∃ e, e = (dayOf y m d).2 := ⟨_, rfl⟩
  obtain ⟨⟨B, C, D⟩, hb⟩ : ∃ x, x = (ofF n).1 := ⟨_, rfl⟩
  obtain ⟨f, hf⟩ : ∃ f, f = (ofF n).2 := ⟨_, rfl⟩
  have hx : aD (B, C, D) = .agg #[.int .i64 B, .int .i64 C, .int .i64 D] := rfl
  have Ha := Lib.hid ha; have He := Lib.hid he; have Hb := Lib.hid hb; have Hf := Lib.hid hf; have Hx := Lib.hid hx
  clear ha he hb hf hx
  go_enter Try.func5, Try.ntmps5
  go_wp2_with fail
  refine (day_any _ _ _ _).mono ?_
  rintro en w1 ⟨rfl, hb1⟩
  rw [← Ha.out, ← He.out]
  have k1 := boxc (bx hb1)
  have l1 := boxs (bx hb1)
  have n1 := bt ((br _).alloc (Nat.le_refl _) _) hb1
  go_wp2_with fail
  refine (of_any _ _).mono ?_
  rintro en w2 ⟨rfl, hb2⟩
  rw [← Hb.out, ← Hf.out, Hx.out]
  have H2 := bt n1 hb2
  have k1 := kc hb2 l1 k1
  have l1 := kl hb2 l1
  go_wp2_with fail
  refine (dayNo_any _ _ _ _).mono ?_
  rintro en w3 ⟨rfl, hb3⟩
  rw [← Ha.out, ← He.out]
  have n3 := bt ((br _).alloc (Nat.le_refl _) _) hb3
  have H3 := bt H2 n3
  have k2 := boxc (bx hb3)
  have l2 := boxs (bx hb3)
  have k1 := kc n3 l1 k1
  have l1 := kl n3 l1
  go_wp2_with fail
  refine (dateOfR_any _ _).mono ?_
  rintro en w4 ⟨rfl, hb4⟩
  rw [← Hb.out, ← Hf.out, Hx.out]
  have H4 := bt H3 hb4
  have k2 := kc hb4 l2 k2
  have l2 := kl hb4 l2
  have k1 := kc hb4 l1 k1
  have l1 := kl hb4 l1
  go_wp2_with fail
  have c10 := k1 0
  have c20 := k2 0; have c21 := k2 1; have c22 := k2 2
  simp only [List.getElem?_toArray, List.getElem?_cons_zero, List.getElem?_cons_succ] at c10 c20 c21 c22
  clear k1 k2
  generalize hW : w4.alloc (.cells #[.int .i64 B, .int .i64 C, .int .i64 D] 30) = W
  have hWb : Below w4.heap.size w4 W := by rw [← hW]; exact (br _).alloc (Nat.le_refl _) _
  have c30 : W.cell? ⟨w4.heap.size, 0, none⟩ = some (.int .i64 B) := by rw [← hW, World.cell?_alloc_mark]; rfl
  have c31 : W.cell? ⟨w4.heap.size, 1, none⟩ = some (.int .i64 C) := by rw [← hW, World.cell?_alloc_mark]; rfl
  have c32 : W.cell? ⟨w4.heap.size, 2, none⟩ = some (.int .i64 D) := by rw [← hW, World.cell?_alloc_mark]; rfl
  have c10 := kp hWb c10
  have c20 := kp hWb c20
  have c21 := kp hWb c21
  have c22 := kp hWb c22
  have H5 := bt H4 hWb
  clear hW hWb n1 n3 hb1 hb2 hb3 hb4 H2 H3 H4 l1 l2
  go_region_held3 (fun w' => w'.cell? ⟨w.heap.size, 0, none⟩ = some (.int .i64 y) ∧ w'.cell? ⟨w2.heap.size, 0, none⟩ = some (.int .i64 B) ∧ w'.cell? ⟨w2.heap.size, 1, none⟩ = some (.int .i64 C) ∧ w'.cell? ⟨w2.heap.size, 2, none⟩ = some (.int .i64 D) ∧
      w'.cell? ⟨w4.heap.size, 0, none⟩ = some (.int .i64 B) ∧ w'.cell? ⟨w4.heap.size, 1, none⟩ = some (.int .i64 C) ∧ w'.cell? ⟨w4.heap.size, 2, none⟩ = some (.int .i64 D))
    (first | go_keep | (go_split_ands; (repeat' apply And.intro) <;> first | assumption | exact kp hbb (by assumption)))
    (first
      | (go_at_call 21; refine (begun_any _).mono ?_; rintro en wb ⟨rfl, hbb⟩)
      | (go_at_call 22; refine (leap_any _ _).mono ?_; rintro en wb ⟨rfl, rfl⟩)
      | (go_at_call 23; refine (isLeap_any _ _).mono ?_; rintro en wb ⟨rfl, rfl⟩))
  go_wp2
  go_ret
  exact ⟨by first | rfl | simp, bd H5 hbb⟩
end Dt
end Go.Proofs.Ytipgnmecahbddaa
