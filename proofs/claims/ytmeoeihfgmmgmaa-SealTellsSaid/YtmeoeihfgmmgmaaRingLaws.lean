/- The law on sealing and opening again. -/
import Derived.Test.YtmeoeihfgmmgmaaRingBegun
import Derived.Deep.RegionHeld3
import Derived.OwnWalk
set_option linter.unusedVariables false
namespace Go.Proofs.Ytmeoeihfgmmgmaa
open Go.RowKit
namespace Rg
open Tg
set_option maxHeartbeats 2000000 in
theorem sback_bad (v : Value) (xs : List Ep) (s : ByteArray) (a b : W64) (no : Int) (w : World) (h : Rd 3 eE w v xs) (hss : s.size ≤ 9223372036854775807) (e : Int) (he : e ≠ 0) (hF : sealF xs s = (emptyS, e)) :
    Calls Try.prog 5 #[v, .string s, aKey a b, .int .i64 no] w fun e w' => e = .returned (.bool true) ∧ Below w.heap.size w w' := by
  have H := Lib.hid h
  have C1 := Lib.hid (seal_any v xs s hss)
  rw [hF] at C1
  have hb : (e != 0) = true := by simp [he]
  have hz : emptyS.toList = [] := by rw [ByteArray.toList_eq]; rfl
  unfold aKey
  clear hF h
  go_enter Try.func5, Try.ntmps5
  go_wp2_with fail
  refine (C1.out _ (H.out.below ((br w).alloc (Nat.le_refl _) _))).mono ?_
  rintro en w1 ⟨rfl, b1⟩
  have B1 := Lib.hid (bt ((br w).alloc (Nat.le_refl _) _) b1); clear b1
  go_wp2_with fail
  refine (begun_any _).mono ?_
  rintro en w2 ⟨rfl, b2⟩
  have B2 := Lib.hid (bt B1.out b2); clear b2
  go_wp2_with fail
  go_ret
  exact ⟨by first | rfl | (simp; done), B2.out⟩
set_option maxHeartbeats 4000000 in
theorem sback_ok (v : Value) (xs : List Ep) (s : ByteArray) (a b : W64) (no : Int) (w : World) (h : Rd 3 eE w v xs) (n : Nat) (hn : xs.length = n + 1) (h8 : n < 8) (T : ByteArray) (L : Int) (hL : (xs[n]'(by omega)).1 = L)
    (C1 : RowKit.Hid (∀ w, Rd 3 eE w v xs → Calls Try.prog 16 #[v, .string s] w (SealQ (T, 0) w)))
    (C2 : RowKit.Hid (∀ w, Rd 3 eE w v xs → Calls Try.prog 17 #[v, .string T] w (OpenQ (s, L, 0) w)))
    (A : List Ep) (g : Int) (C3 : RowKit.Hid (∀ w, Rd 3 eE w v xs → Calls Try.prog 8 #[v, .agg #[.int .u64 (wi a), .int .u64 (wi b)]] w (RingQ (A, g) w)))
    (C4 : RowKit.Hid (g = 0 → ∀ v w, Rd 3 eE w v A → Calls Try.prog 17 #[v, .string T] w (OpenQ (s, L, 0) w)))
    (D : List Ep) (h' : Int) (C5 : RowKit.Hid (∀ w, Rd 3 eE w v xs → Calls Try.prog 9 #[v, .int .i64 no] w (RingQ (D, h') w))) (hD : h' ≠ 0 → D = [])
    (C6 : RowKit.Hid (h' = 0 → no = L → ∀ v w, Rd 3 eE w v D → Calls Try.prog 17 #[v, .string T] w (OpenQ (emptyS, 0, 5) w)))
    (C7 : RowKit.Hid (h' = 0 → no ≠ L → ∀ v w, Rd 3 eE w v D → Calls Try.prog 17 #[v, .string T] w (OpenQ (s, L, 0) w))) :
    Calls Try.prog 5 #[v, .string s, aKey a b, .int .i64 no] w fun e w' => e = .returned (.bool true) ∧ Below w.heap.size w w' := by
  have H := Lib.hid h
  obtain ⟨ad, cap, rfl, h1, h2, h3⟩ := h
  obtain ⟨gg, off, rfl, hbl, hcc⟩ := h3 (by omega)
  have q0 := (eE_at hcc n (by omega)).1
  rw [hL] at q0
  have hi : (xs.length : Int) - 1 = (n : Int) := by omega
  have hn0 : (0 : Int) ≤ (n : Int) := by omega
  have hn8 : (n : Int) < 8 := by omega
  have hwi : IntKind.i64.wrap (n : Int) = (n : Int) := IntWalk.i64_in _ (by omega)
  have hi8 : (n : Int) < (xs.length : Int) := by omega
  have HHD := Lib.hid hD
  unfold aKey
  clear hcc hn h3 hL hD
  go_enter Try.func5, Try.ntmps5
  go_wp2_with fail
  refine (C1.out _ (H.out.below ((br w).alloc (Nat.le_refl _) _))).mono ?_
  rintro en w1 ⟨rfl, b1⟩
  have B1 := Lib.hid (bt ((br w).alloc (Nat.le_refl _) _) b1)
  have k0 : w1.cell? ⟨w.heap.size, 0, none⟩ = some (.int .u64 (wi a)) := boxc (bx b1) 0
  have k1 : w1.cell? ⟨w.heap.size, 1, none⟩ = some (.int .u64 (wi b)) := boxc (bx b1) 1
  clear b1
  go_wp2_with fail
  refine (begun_any _).mono ?_
  rintro en w2 ⟨rfl, b2⟩
  have B2 := Lib.hid (bt B1.out b2)
  replace k0 := kp b2 k0; replace k1 := kp b2 k1
  clear b2
  have c0 := (B2.out.cell (p := ⟨gg, off + n * 3, none⟩) hbl).trans q0
  go_wp2_with fail
  refine (C2.out _ (H.out.below B2.out)).mono ?_
  rintro en w3 ⟨rfl, b3⟩
  have B3 := Lib.hid (bt B2.out b3)
  replace k0 := kp b3 k0; replace k1 := kp b3 k1
  clear b3 c0
  go_wp2_with fail
  refine (C3.out _ (H.out.below B3.out)).mono ?_
  rintro en w4 ⟨v4, rfl, r4, b4⟩
  have B4 := Lib.hid (bt B3.out b4); have R4 := Lib.hid r4
  clear b4 r4 k0 k1
  by_cases hg : g = 0
  · have X4 := Lib.hid (C4.out hg)
    clear C4
    subst hg
    go_wp2_with fail
    refine (X4.out _ _ R4.out).mono ?_
    rintro en w5 ⟨rfl, b5⟩
    have B5 := Lib.hid (bt B4.out b5)
    clear b5
    go_wp2_with fail
    refine (C5.out _ (H.out.below B5.out)).mono ?_
    rintro en w6 ⟨v6, rfl, r6, b6⟩
    have B6 := Lib.hid (bt B5.out b6); have R6 := Lib.hid r6
    clear b6 r6
    by_cases hh : h' = 0
    · by_cases hno : no = L
      · have hnb : (no == L) = true := by simp [hno]
        have X := Lib.hid (C6.out hh hno)
        subst hh
        clear hno
        go_wp2_with fail
        refine (X.out _ _ R6.out).mono ?_
        rintro en w7 ⟨rfl, b7⟩
        have B7 := Lib.hid (bt B6.out b7)
        clear b7
        go_wp2_with fail
        go_ret
        exact ⟨by first | rfl | (simp; done), B7.out⟩
      · have hnb : (no == L) = false := by simp [hno]
        have X := Lib.hid (C7.out hh hno)
        subst hh
        clear hno
        go_wp2_with fail
        refine (X.out _ _ R6.out).mono ?_
        rintro en w7 ⟨rfl, b7⟩
        have B7 := Lib.hid (bt B6.out b7)
        clear b7
        go_wp2_with fail
        go_ret
        exact ⟨by first | rfl | (simp; done), B7.out⟩
    · have hhb : (h' != 0) = true := by simp [hh]
      have hDN := HHD.out hh
      have R7 := R6.out
      simp only [hDN] at R7
      obtain ⟨a7, c7, rfl, _, _, _⟩ := R7
      clear hh
      go_wp2_with fail
      go_ret
      exact ⟨by first | rfl | (simp; done), B6.out⟩
  · have hgb : (g == 0) = false := by simp [hg]
    go_wp2_with fail
    refine (C5.out _ (H.out.below B4.out)).mono ?_
    rintro en w6 ⟨v6, rfl, r6, b6⟩
    have B6 := Lib.hid (bt B4.out b6); have R6 := Lib.hid r6
    clear b6 r6
    by_cases hh : h' = 0
    · by_cases hno : no = L
      · have hnb : (no == L) = true := by simp [hno]
        have X := Lib.hid (C6.out hh hno)
        subst hh
        clear hno
        go_wp2_with fail
        refine (X.out _ _ R6.out).mono ?_
        rintro en w7 ⟨rfl, b7⟩
        have B7 := Lib.hid (bt B6.out b7)
        clear b7
        go_wp2_with fail
        go_ret
        exact ⟨by first | rfl | (simp; done), B7.out⟩
      · have hnb : (no == L) = false := by simp [hno]
        have X := Lib.hid (C7.out hh hno)
        subst hh
        clear hno
        go_wp2_with fail
        refine (X.out _ _ R6.out).mono ?_
        rintro en w7 ⟨rfl, b7⟩
        have B7 := Lib.hid (bt B6.out b7)
        clear b7
        go_wp2_with fail
        go_ret
        exact ⟨by first | rfl | (simp; done), B7.out⟩
    · have hhb : (h' != 0) = true := by simp [hh]
      have hDN := HHD.out hh
      have R7 := R6.out
      simp only [hDN] at R7
      obtain ⟨a7, c7, rfl, _, _, _⟩ := R7
      clear hh
      go_wp2_with fail
      go_ret
      exact ⟨by first | rfl | (simp; done), B6.out⟩
end Rg
end Go.Proofs.Ytmeoeihfgmmgmaa
