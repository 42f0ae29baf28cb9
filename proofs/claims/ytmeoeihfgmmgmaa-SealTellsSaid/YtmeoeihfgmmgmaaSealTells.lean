/- The law that Seal and Open answer as the document says. -/
import Derived.Test.YtmeoeihfgmmgmaaRingRef3
set_option linter.unusedVariables false
namespace Go.Proofs.Ytmeoeihfgmmgmaa
open Go.RowKit
namespace Rg
open Tg
set_option maxHeartbeats 4000000 in
theorem stells_core (v : Value) (xs : List Ep) (s t A B : ByteArray) (e f no : Int) (w : World) (h : Rd 3 eE w v xs)
    (C1 : RowKit.Hid (∀ w, Rd 3 eE w v xs → Calls Try.prog 16 #[v, .string s] w (SealQ (A, e) w)))
    (C2 : RowKit.Hid (∀ w, Rd 3 eE w v xs → Calls Try.prog 17 #[v, .string t] w (OpenQ (B, no, f) w)))
    (C3 : RowKit.Hid (∀ w, Rd 3 eE w v xs → Calls Try.prog 18 #[v, .string s] w (SealQ (A, e) w)))
    (C4 : RowKit.Hid (∀ w, Rd 3 eE w v xs → Calls Try.prog 19 #[v, .string t] w (OpenQ (B, no, f) w))) :
    Calls Try.prog 4 #[v, .string s, .string t] w fun e w' => e = .returned (.bool true) ∧ Below w.heap.size w w' := by
  have H := Lib.hid h
  clear h
  have CB := Lib.hid begun_any
  have hee : (e == e) = true := by simp
  have hff : (f == f) = true := by simp
  have hnn : (no == no) = true := by simp
  have hA : (A.toList == A.toList) = true := by simp
  have hB : (B.toList == B.toList) = true := by simp
  go_enter Try.func4, Try.ntmps4
  go_wp2_with fail
  refine (C1.out _ H.out).mono ?_
  rintro en w1 ⟨rfl, b1⟩
  have B1 := Lib.hid b1
  clear b1
  go_wp2_with fail
  refine (C2.out _ (H.out.below B1.out)).mono ?_
  rintro en w2 ⟨rfl, b2⟩
  have B2 := Lib.hid (bt B1.out b2)
  clear b2
  go_wp2_with fail
  refine (C3.out _ (H.out.below B2.out)).mono ?_
  rintro en w3 ⟨rfl, b3⟩
  have B3 := Lib.hid (bt B2.out b3)
  clear b3
  go_wp2_with fail
  refine (C4.out _ (H.out.below B3.out)).mono ?_
  rintro en w4 ⟨rfl, b4⟩
  have B4 := Lib.hid (bt B3.out b4)
  clear b4
  go_wp2_with fail
  refine (CB.out _).mono ?_
  rintro en w5 ⟨rfl, hb5⟩
  have B5 := Lib.hid (bt B4.out hb5)
  clear hb5
  go_wp2_with fail
  go_ret
  exact ⟨by first | rfl | (simp; done), B5.out⟩
theorem stells_end (v : Value) (xs : List Ep) (s t : ByteArray) (w : World) (h : Rd 3 eE w v xs) (hs : s.size ≤ maxLen) (ht : t.size ≤ maxLen) : Calls Try.prog 4 #[v, .string s, .string t] w fun e w' => e = .returned (.bool true) ∧ Below w.heap.size w w' := by
  have hs' : s.size ≤ 9223372036854775807 := by unfold maxLen at hs; omega
  have ht' : t.size ≤ 9223372036854775807 := by unfold maxLen at ht; omega
  exact stells_core v xs s t (sealF xs s).1 (openF xs t).1 (sealF xs s).2 (openF xs t).2.2 (openF xs t).2.1 w h (Lib.hid (seal_any v xs s hs')) (Lib.hid (open_any v xs t ht')) (Lib.hid (sealOf_any v xs s hs')) (Lib.hid (openOf_any v xs t ht'))
end Rg
end Go.Proofs.Ytmeoeihfgmmgmaa
