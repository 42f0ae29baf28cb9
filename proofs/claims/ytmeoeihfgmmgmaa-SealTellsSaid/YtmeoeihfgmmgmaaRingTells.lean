/- The law that Check, Add and Drop answer as the document says. -/
import Derived.Test.YtmeoeihfgmmgmaaRingRef2
set_option linter.unusedVariables false
namespace Go.Proofs.Ytmeoeihfgmmgmaa
open Go.RowKit
namespace Rg
open Tg
set_option maxHeartbeats 4000000 in
theorem rtells_core (v : Value) (xs A D : List Ep) (a b : W64) (no e f C : Int) (w : World) (h : Rd 3 eE w v xs)
    (C1 : RowKit.Hid (∀ w, Rd 3 eE w v xs → Calls Try.prog 8 #[v, .agg #[.int .u64 (wi a), .int .u64 (wi b)]] w (RingQ (A, e) w)))
    (C2 : RowKit.Hid (∀ w, Rd 3 eE w v xs → Calls Try.prog 9 #[v, .int .i64 no] w (RingQ (D, f) w)))
    (C3 : RowKit.Hid (∀ w, Rd 3 eE w v xs → Calls Try.prog 10 #[v, .agg #[.int .u64 (wi a), .int .u64 (wi b)]] w (RingQ (A, e) w)))
    (C4 : RowKit.Hid (∀ w, Rd 3 eE w v xs → Calls Try.prog 11 #[v, .int .i64 no] w (RingQ (D, f) w)))
    (C5 : RowKit.Hid (∀ w, Rd 3 eE w v xs → Calls Try.prog 13 #[v] w (ErrQ C w)))
    (C6 : RowKit.Hid (∀ w, Rd 3 eE w v xs → Calls Try.prog 14 #[v] w (ErrQ C w)))
    (C7 : RowKit.Hid (∀ v u w, Rd 3 eE w v A → Rd 3 eE w u A → Calls Try.prog 15 #[v, u] w fun e w' => e = .returned (.bool true) ∧ Below w.heap.size w w'))
    (C8 : RowKit.Hid (∀ v u w, Rd 3 eE w v D → Rd 3 eE w u D → Calls Try.prog 15 #[v, u] w fun e w' => e = .returned (.bool true) ∧ Below w.heap.size w w')) :
    Calls Try.prog 3 #[v, aKey a b, .int .i64 no] w fun e w' => e = .returned (.bool true) ∧ Below w.heap.size w w' := by
  have H := Lib.hid h
  unfold aKey
  clear h
  have CB := Lib.hid begun_any
  have hee : (e == e) = true := by simp
  have hff : (f == f) = true := by simp
  have hcc : (C == C) = true := by simp
  go_enter Try.func3, Try.ntmps3
  go_wp2_with fail
  refine (C1.out _ (H.out.below ((br w).alloc (Nat.le_refl _) _))).mono ?_
  rintro en w1 ⟨v1, rfl, r1, b1⟩
  have B1 := Lib.hid (bt ((br w).alloc (Nat.le_refl _) _) b1)
  have R1 := Lib.hid (show Rd 3 eE w1 v1 A from r1)
  have k0 : w1.cell? ⟨w.heap.size, 0, none⟩ = some (.int .u64 (wi a)) := boxc (bx b1) 0
  have k1 : w1.cell? ⟨w.heap.size, 1, none⟩ = some (.int .u64 (wi b)) := boxc (bx b1) 1
  clear b1 r1
  go_wp2_with fail
  refine (C2.out _ (H.out.below B1.out)).mono ?_
  rintro en w2 ⟨v2, rfl, r2, b2⟩
  have B2 := Lib.hid (bt B1.out b2)
  have R2 := Lib.hid (show Rd 3 eE w2 v2 D from r2)
  replace R1 := Lib.hid (R1.out.below b2)
  replace k0 := kp b2 k0; replace k1 := kp b2 k1
  clear b2 r2
  go_wp2_with fail
  refine (C3.out _ (H.out.below B2.out)).mono ?_
  rintro en w3 ⟨v3, rfl, r3, b3⟩
  have B3 := Lib.hid (bt B2.out b3)
  have R3 := Lib.hid (show Rd 3 eE w3 v3 A from r3)
  replace R1 := Lib.hid (R1.out.below b3); replace R2 := Lib.hid (R2.out.below b3)
  clear b3 r3 k0 k1
  go_wp2_with fail
  refine (C4.out _ (H.out.below B3.out)).mono ?_
  rintro en w4 ⟨v4, rfl, r4, b4⟩
  have B4 := Lib.hid (bt B3.out b4)
  have R4 := Lib.hid (show Rd 3 eE w4 v4 D from r4)
  replace R1 := Lib.hid (R1.out.below b4); replace R2 := Lib.hid (R2.out.below b4); replace R3 := Lib.hid (R3.out.below b4)
  have R0 := Lib.hid (H.out.below B4.out)
  clear b4 r4
  go_wp2_with fail
  refine (CB.out _).mono ?_
  rintro en w5 ⟨rfl, hb5⟩
  have hf5 : Below w4.heap.size w4 w5 := hb5
  go_wp2_with fail
  refine (C5.out _ (R0.out.below hf5)).mono ?_
  rintro en w6 ⟨rfl, hb6⟩
  have hf6 : Below w4.heap.size w4 w6 := bt hf5 hb6
  go_wp2_with fail
  refine (C6.out _ (R0.out.below hf6)).mono ?_
  rintro en w7 ⟨rfl, hb7⟩
  have hf7 : Below w4.heap.size w4 w7 := bt hf6 hb7
  go_wp2_with fail
  refine (C7.out _ _ _ (R1.out.below hf7) (R3.out.below hf7)).mono ?_
  rintro en w8 ⟨rfl, hb8⟩
  have hf8 : Below w4.heap.size w4 w8 := bt hf7 hb8
  go_wp2_with fail
  refine (C8.out _ _ _ (R2.out.below hf8) (R4.out.below hf8)).mono ?_
  rintro en w9 ⟨rfl, hb9⟩
  have hf9 : Below w4.heap.size w4 w9 := bt hf8 hb9
  go_wp2_with fail
  go_ret
  exact ⟨by first | rfl | (simp; done), bt B4.out hf9⟩
theorem same_self (xs : List Ep) : ∀ v u w, Rd 3 eE w v xs → Rd 3 eE w u xs → Calls Try.prog 15 #[v, u] w fun e w' => e = .returned (.bool true) ∧ Below w.heap.size w w' := fun v u w h1 h2 => by
  have := same_any v u xs xs w h1 h2
  rw [decide_eq_true rfl] at this
  exact this
theorem rtells_end (v : Value) (xs : List Ep) (k : W64 × W64) (no : Int) (w : World) (h : Rd 3 eE w v xs) (_ : True) (_ : (Lit.int .i64 no).wf = true) : Calls Try.prog 3 #[v, aK k.1 k.2, .int .i64 no] w fun e w' => e = .returned (.bool true) ∧ Below w.heap.size w w' := by
  obtain ⟨a, b⟩ := k
  exact rtells_core v xs (addF xs (a, b)).1 (dropF xs no).1 a b no (addF xs (a, b)).2 (dropF xs no).2 (chk xs) w h (Lib.hid (add_any v xs a b)) (Lib.hid (drop_any v xs no)) (Lib.hid (addR_any v xs a b)) (Lib.hid (dropR_any v xs no)) (Lib.hid (check_any v xs)) (Lib.hid (checkR_any v xs)) (Lib.hid (same_self _)) (Lib.hid (same_self _))
end Rg
end Go.Proofs.Ytmeoeihfgmmgmaa
