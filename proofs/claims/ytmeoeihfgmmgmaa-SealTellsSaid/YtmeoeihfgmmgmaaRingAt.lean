/- Rings: where an epoch stands; a copy of a ring. -/
import Derived.Test.YtmeoeihfgmmgmaaRingWalks
import Derived.Lib.SliceRun
import Derived.Shelf.Abstract
set_option linter.unusedVariables false
namespace Go.Proofs.Ytmeoeihfgmmgmaa
open Go.RowKit
namespace Rg
open Tg
theorem clo_any (B0 : Nat) (no : Int) (x : Ep) (w : World) (c0 : w.cell? ⟨B0, 0, none⟩ = some (.int .i64 no)) : Calls Try.prog 28 #[.agg #[.int .i64 x.1, .int .u64 (wi x.2.1), .int .u64 (wi x.2.2)], .pointer (some ⟨B0, 0, none⟩)] w fun e w' => e = .returned (.bool (decide (x.1 = no))) ∧ Below w.heap.size w w' := by
  have hd : (x.1 == no) = decide (x.1 = no) := rfl
  have HD := Lib.hid hd; clear hd
  generalize x.1 = n at *; generalize wi x.2.1 = ka at *; generalize wi x.2.2 = kb at *
  have c1 : (w.alloc (.cells #[.int .i64 n, .int .u64 ka, .int .u64 kb] 40)).cell? ⟨B0, 0, none⟩ = some (.int .i64 no) := kp ((br w).alloc (Nat.le_refl _) _) c0
  go_enter Try.func28, Try.ntmps28
  go_wp2_with fail
  try go_quiet (fail)
  go_wp2
  go_ret
  exact ⟨by first | rfl | (rw [← HD.out]) | simp, by first | exact (br _).alloc (Nat.le_refl _) _ | exact bn ((br _).alloc (Nat.le_refl _) _) _⟩
set_option maxHeartbeats 1000000 in
theorem idx_any (B0 : Nat) (no : Int) (v : Value) (xs : List Ep) (w : World) (h : Rd 3 eE w v xs) (c0 : w.cell? ⟨B0, 0, none⟩ = some (.int .i64 no)) :
    Calls Try.prog 27 #[v, .func (.func 28) #[] #[.pointer (some ⟨B0, 0, none⟩)]] w (ErrQ (if atN no xs = xs.length then -1 else (atN no xs : Int)) w) := by
  have hle := h.len_le
  obtain ⟨a, cap, rfl, h1, h2, h3⟩ := h
  have H3 := Lib.hid h3; clear h3
  have eg : ∀ args w, (callFunc 28 args).run Try.prog w = .ok (.enter 28 args) w := enters_of Try.func28 (by kernel_rfl) rfl
  obtain ⟨RES, hRES⟩ : ∃ RES : Int, (if atN no xs = xs.length then -1 else (atN no xs : Int)) = RES := ⟨_, rfl⟩
  rw [hRES]
  have HRES := Lib.hid hRES; clear hRES
  go_enter Try.func27, Try.ntmps27
  go_wp2
  go_loopw [8] (fun i wr => ∃ k : Nat, k ≤ xs.length ∧ i = .int .i64 k ∧ (∀ j (hj : j < xs.length), j < k → xs[j].1 ≠ no) ∧ Below w.heap.size w wr) (fun i _ => xs.length - (intOf i).toNat)
  case atStart => exact ⟨0, Nat.zero_le _, rfl, fun j hj hk => by omega, br _⟩
  case round =>
    obtain ⟨k, hk, rfl, hall, hbw⟩ := hrel
    by_cases hlt : k < xs.length
    · obtain ⟨g, off, rfl, hbl, hc⟩ := H3.out (by omega)
      obtain ⟨q0, q1, q2⟩ := eE_at hc k hlt
      have d0 := (hbw.cell (p := ⟨g, off + k * 3, none⟩) hbl).trans q0
      have d1 := (hbw.cell (p := ⟨g, off + k * 3 + 1, none⟩) hbl).trans q1
      have d2 := (hbw.cell (p := ⟨g, off + k * 3 + 2, none⟩) hbl).trans q2
      have i1 : (k : Int) < (xs.length : Int) := by omega
      have i0 : (0 : Int) ≤ (k : Int) := by omega
      have hcl := clo_any B0 no xs[k] wr (kp hbw c0)
      have HCL := Lib.hid hcl; have HBW := Lib.hid hbw; have HALL := Lib.hid hall
      by_cases he : xs[k].1 = no
      · have hat : atN no xs = k := atN_eq no xs k (by omega) hall (fun _ => he)
        have hR := HRES.out
        rw [hat, if_neg (by omega)] at hR
        have HR := Lib.hid hR
        have hdt : decide (xs[k].1 = no) = true := decide_eq_true he
        have HDT := Lib.hid hdt
        clear hcl hbw hall hc q0 q1 q2 hR hat hdt he c0
        go_wp2_with fail
        refine (HCL.out).mono ?_
        rintro en w3 ⟨rfl, hb3⟩
        rw [HDT.out]
        go_wp2
        go_ret
        exact ⟨by rw [← HR.out]; rfl, HBW.out.trans (hb3.mono HBW.out.size)⟩
      · have hall2 : ∀ j (hj : j < xs.length), j < k + 1 → xs[j].1 ≠ no := fun j hj hjk => by
          by_cases e : j = k
          · subst e; exact he
          · exact hall j hj (by omega)
        have HA2 := Lib.hid hall2
        have HDT := Lib.hid (decide_eq_false he)
        clear hcl hbw hall hc q0 q1 q2 hall2 he c0
        go_wp2_with fail
        refine (HCL.out).mono ?_
        rintro en w3 ⟨rfl, hb3⟩
        rw [HDT.out]
        have HB3 := Lib.hid (HBW.out.trans (hb3.mono HBW.out.size))
        clear hb3
        go_wp2
        go_roundw
        case rel => exact ⟨k + 1, by omega, by go_num, HA2.out, HB3.out⟩
        case measure => simp [intOf]; omega
    · have hat : atN no xs = xs.length := atN_eq no xs xs.length (Nat.le_refl _) (fun j hj _ => hall j hj (by omega)) (fun h => absurd h (Nat.lt_irrefl _))
      have hR := HRES.out
      rw [if_pos hat] at hR
      have HR := Lib.hid hR
      clear hR hat hall H3 HRES
      go_wp2
      go_ret
      exact ⟨by rw [← HR.out]; rfl, hbw⟩
theorem at_any (no : Int) (v : Value) (xs : List Ep) (w : World) (h : Rd 3 eE w v xs) : Calls Try.prog 22 #[v, .int .i64 no] w (ErrQ (if atN no xs = xs.length then -1 else (atN no xs : Int)) w) := by
  have hI := idx_any w.heap.size no v xs (w.alloc (.cells #[.int .i64 no] 3)) (h.below ((br w).alloc (Nat.le_refl _) _)) (by rw [World.cell?_alloc_mark]; rfl)
  have HI := Lib.hid hI; clear hI
  obtain ⟨RES, hRES⟩ : ∃ RES : Int, (if atN no xs = xs.length then -1 else (atN no xs : Int)) = RES := ⟨_, rfl⟩
  rw [hRES] at HI ⊢
  clear hRES
  go_enter Try.func22, Try.ntmps22
  go_wp2_with fail
  refine HI.out.mono ?_
  rintro en w1 ⟨rfl, hb1⟩
  go_wp2
  go_ret
  exact ⟨rfl, bt ((br _).alloc (Nat.le_refl _) _) hb1⟩
set_option maxHeartbeats 1000000 in
theorem clone_any (v : Value) (xs : List Ep) (w : World) (h : Rd 3 eE w v xs) (hl : xs.length ≤ 8) : Calls Try.prog 21 #[v] w fun e w' => ∃ v', e = .returned v' ∧ OwnE w' w.heap.size v' xs ∧ Below w.heap.size w w' := by
  have H := Lib.hid h
  obtain ⟨a, cap, rfl, h1, h2, h3⟩ := h
  rcases a with _ | ad
  · have hz : xs = [] := by
      rcases xs with _ | ⟨x, xs⟩
      · rfl
      · obtain ⟨b, off, e, _⟩ := h3 (by simp); cases e
    subst hz
    have q : ∀ w, (binOp .eql 22 (.slice none 0 cap) (.slice none 0 0)).run Try.prog w = .ok (.bool true) w := fun w => Lib.run_eql_slice_nil w _ _ none 0 cap 0 0 Try.underlying22
    have hN := Lib.hid (own_nilE w w.heap.size)
    clear h3
    show Calls _ _ #[.slice none 0 cap] _ _
    go_enter Try.func21, Try.ntmps21
    go_wp2
    go_ret
    exact ⟨_, rfl, hN.out, br _⟩
  · clear h3
    have q : ∀ w, (binOp .eql 22 (.slice (some ad) xs.length cap) (.slice none 0 0)).run Try.prog w = .ok (.bool false) w := fun w => Lib.run_eql_slice_nil w _ _ (some ad) xs.length cap 0 0 Try.underlying22
    go_enter Try.func21, Try.ntmps21
    go_wp2_with (at_builtin; refine app_list rfl (.tmp 5) (.tmp 6) rfl w.heap.size _ [] rfl (own0 w w.heap.size w.heap.size rfl (Nat.le_refl _)) _ xs rfl (H.out.below ((br w).alloc (Nat.le_refl _) _)) (by simp; omega) (by simp) ?_; intro v1 w5 hown1 hb5 hfar5; have HO1 := Lib.hid hown1; have HB5 := Lib.hid (((br w).alloc (Nat.le_refl _) _).trans hb5); clear hown1 hfar5 hb5)
    go_ret
    exact ⟨_, rfl, HO1.out, HB5.out⟩
end Rg
end Go.Proofs.Ytmeoeihfgmmgmaa
