/- Sums of amounts: package pence and the document's answer. -/
import Derived.Test.YtogohocokmhjcaaPenceWalks
set_option linter.unusedVariables false
namespace Go.Proofs.Ytogohocokmhjcaa
open Go.RowKit
namespace Pn
/-- the running sum, as the machine has it -/
def acc (l : List Int) : Int := l.foldl (fun n x => wrap64 (n + x)) 0
def sumF (l : List Int) : Int × Int := if ∀ x ∈ l, isA x then told (acc l) else (0, 3)
theorem take_snocA {α : Type} (l : List α) (k : Nat) (h : k < l.length) : l.take (k + 1) = l.take k ++ [l[k]] := by simp
theorem acc_snoc (l : List Int) (x : Int) : acc (l ++ [x]) = wrap64 (acc l + x) := by simp [acc]
theorem sumF_no (l : List Int) (k : Nat) (h : k < l.length) (hx : ¬ isA l[k]) : sumF l = (0, 3) := by
  unfold sumF; rw [if_neg]; intro g; exact hx (g _ (List.getElem_mem _))
theorem sumF_all (l : List Int) (h : ∀ x ∈ l.take l.length, isA x) : sumF l = told (acc l) := by
  rw [List.take_length] at h
  unfold sumF; rw [if_pos h]
theorem ok_snoc (l : List Int) (k : Nat) (h : k < l.length) (g : ∀ x ∈ l.take k, isA x) (hx : isA l[k]) : ∀ x ∈ l.take (k + 1), isA x := by
  rw [take_snocA l k h]; intro x hx'
  rcases List.mem_append.1 hx' with a | a
  · exact g x a
  · simp at a; rw [a]; exact hx
def SumQ (l : List Int) (w : World) (e : Ending) (w' : World) : Prop := e = .returned (.tuple #[.int .i64 (sumF l).1, .int .i64 (sumF l).2]) ∧ Below w.heap.size w w'
set_option maxHeartbeats 1000000 in
theorem sum_any (v : Value) (xs : List Int) (w : World) (h : Rd 1 eI w v xs) : Calls Try.prog 33 #[v] w (SumQ xs w) := by
  have hle := h.len_le
  obtain ⟨a, cap, rfl, h1, h2, h3⟩ := h
  go_enter Try.func33, Try.ntmps33
  go_wp2
  go_loop [4, 9] (fun n i => ∃ k : Nat, k ≤ xs.length ∧ (∀ x ∈ xs.take k, isA x) ∧ i = .int .i64 k ∧ n = .int .i64 (acc (xs.take k))) (fun _ i => xs.length - (intOf i).toNat)
  case atStart => exact ⟨0, Nat.zero_le _, by simp, rfl, rfl⟩
  case round =>
    obtain ⟨k, hk, hok, rfl, rfl⟩ := hrel
    by_cases hlt : k < xs.length
    · obtain ⟨b, off, rfl, hb, hc⟩ := h3 (by omega)
      have hcell := eI_at hc k hlt
      obtain ⟨c, hcc⟩ : ∃ c, c = xs[k] := ⟨_, rfl⟩
      rw [← hcc] at hcell
      have hsn := take_snocA xs k hlt
      rw [← hcc] at hsn
      have hac := acc_snoc (xs.take k) c
      have HS := Lib.hid hsn; have HA := Lib.hid hac
      by_cases hx : isA c
      · have Hok := Lib.hid (ok_snoc xs k hlt hok (by rw [← hcc]; exact hx))
        have Hx := Lib.hid hx
        clear hx hsn hac hcc hok h3 hc
        go_wp2_with fail
        refine (is_any c true _ (decide_eq_true Hx.out)).mono ?_
        rintro en w1 ⟨rfl, he⟩
        subst he
        go_wp2
        go_round
        case rel => exact ⟨k + 1, by omega, Hok.out, by go_num, by rw [HS.out, HA.out]⟩
        case measure => simp [intOf]; omega
      · have hno := sumF_no xs k hlt (by rw [← hcc]; exact hx)
        have Hno := Lib.hid hno; have Hx := Lib.hid hx
        clear hx hsn hac hcc hok h3 hc hno
        go_wp2_with fail
        refine (is_any c false _ (decide_eq_false Hx.out)).mono ?_
        rintro en w1 ⟨rfl, he⟩
        subst he
        go_wp2
        go_ret2
        exact ⟨by rw [Hno.out]; rfl, br _⟩
    · obtain rfl : k = xs.length := by omega
      have hall := sumF_all xs hok
      have Hall := Lib.hid hall
      clear hall hok hlt h3 hk
      go_wp2_with fail
      refine (told_any _ _).mono ?_
      rintro en w1 ⟨rfl, he⟩
      subst he
      go_wp2
      go_ret2
      exact ⟨by rw [Hall.out]; rfl, br _⟩
theorem nowrap (n : Int) (h : -9223372036854775808 ≤ n ∧ n ≤ 9223372036854775807) : wrap64 n = n := by
  unfold wrap64; omega
def sum0F (l : List Int) : Int × Int := if l.length ≤ 32 then sumF l else (0, 2)
def Sum0Q (l : List Int) (w : World) (e : Ending) (w' : World) : Prop := e = .returned (.tuple #[.int .i64 (sum0F l).1, .int .i64 (sum0F l).2]) ∧ Below w.heap.size w w'
theorem sum0_any (v : Value) (xs : List Int) (w : World) (h : Rd 1 eI w v xs) : Calls Try.prog 18 #[v] w (Sum0Q xs w) := by
  have hle := h.len_le
  by_cases hl : xs.length ≤ 32
  · have hs : sum0F xs = sumF xs := by unfold sum0F; rw [if_pos hl]
    have Hs := Lib.hid hs; clear hs
    have H := Lib.hid h
    obtain ⟨a, cap, rfl, h1, h2, h3⟩ := h
    clear h3
    go_enter Try.func18, Try.ntmps18
    go_wp2_with fail
    refine (sum_any _ xs _ H.out).mono ?_
    rintro en w1 ⟨rfl, hb1⟩
    go_wp2
    go_ret2
    exact ⟨by rw [Hs.out]; rfl, hb1⟩
  · have hs : sum0F xs = (0, 2) := by unfold sum0F; rw [if_neg hl]
    have Hs := Lib.hid hs; clear hs
    obtain ⟨a, cap, rfl, h1, h2, h3⟩ := h
    clear h3
    go_enter Try.func18, Try.ntmps18
    go_wp2
    go_ret2
    exact ⟨by rw [Hs.out]; rfl, br _⟩
theorem add_any (a b : Int) (w : World) : Calls Try.prog 17 #[.int .i64 a, .int .i64 b] w (SumQ [a, b] w) := by
  go_enter Try.func17, Try.ntmps17
  go_wp2_with fail
  refine (sum_any _ [a, b] _ (Rd.lit [a, b] w _ _ (show 2 ≤ maxLen by decide))).mono ?_
  rintro en w1 ⟨rfl, hb1⟩
  go_wp2
  go_ret2
  exact ⟨rfl, bt ((br w).alloc (Nat.le_refl _) _) hb1⟩
theorem noAmount_any (p : Int) (b : Bool) (w : World) (h : decide (isA p) = b) : Calls Try.prog 37 #[.int .i64 p] w fun e w' => e = .returned (.bool (!b)) ∧ w = w' := by
  by_cases hp : isA p
  · obtain rfl : b = true := by rw [← h]; exact decide_eq_true hp
    obtain ⟨h1, h2⟩ := hp
    clear h
    go_enter Try.func37, Try.ntmps37
    go_wp2
    go_ret
    exact ⟨by first | rfl | (simp; done) | (simp; omega), rfl⟩
  · obtain rfl : b = false := by rw [← h]; exact decide_eq_false hp
    rcases (show p < -1099511627776 ∨ (-1099511627776 ≤ p ∧ 1099511627776 < p) by unfold isA at hp; omega) with h1 | ⟨h1, h2⟩
    · clear h hp
      go_enter Try.func37, Try.ntmps37
      go_wp2
      go_ret
      exact ⟨by first | rfl | (simp; done) | (simp; omega), rfl⟩
    · clear h hp
      go_enter Try.func37, Try.ntmps37
      go_wp2
      go_ret
      exact ⟨by first | rfl | (simp; done) | (simp; omega), rfl⟩
set_option maxHeartbeats 1000000 in
theorem sumR_any (v : Value) (xs : List Int) (w : World) (h : Rd 1 eI w v xs) : Calls Try.prog 20 #[v] w (SumQ xs w) := by
  have hle := h.len_le
  obtain ⟨a, cap, rfl, h1, h2, h3⟩ := h
  go_enter Try.func20, Try.ntmps20
  go_wp2
  go_loop [4, 5] (fun n i => ∃ k : Nat, k ≤ xs.length ∧ (∀ x ∈ xs.take k, isA x) ∧ i = .int .i64 k ∧ n = .int .i64 (acc (xs.take k))) (fun _ i => xs.length - (intOf i).toNat)
  case atStart => exact ⟨0, Nat.zero_le _, by simp, rfl, rfl⟩
  case round =>
    obtain ⟨k, hk, hok, rfl, rfl⟩ := hrel
    by_cases hlt : k < xs.length
    · obtain ⟨b, off, rfl, hb, hc⟩ := h3 (by omega)
      have hcell := eI_at hc k hlt
      obtain ⟨c, hcc⟩ : ∃ c, c = xs[k] := ⟨_, rfl⟩
      rw [← hcc] at hcell
      have hsn := take_snocA xs k hlt
      rw [← hcc] at hsn
      have hac := acc_snoc (xs.take k) c
      have HS := Lib.hid hsn; have HA := Lib.hid hac
      by_cases hx : isA c
      · have Hok := Lib.hid (ok_snoc xs k hlt hok (by rw [← hcc]; exact hx))
        have Hx := Lib.hid hx
        clear hx hsn hac hcc hok h3 hc
        go_wp2_with fail
        refine (noAmount_any c true _ (decide_eq_true Hx.out)).mono ?_
        rintro en w1 ⟨rfl, he⟩
        subst he
        go_wp2
        go_round
        case rel => exact ⟨k + 1, by omega, Hok.out, by go_num, by rw [HS.out, HA.out]⟩
        case measure => simp [intOf]; omega
      · have hno := sumF_no xs k hlt (by rw [← hcc]; exact hx)
        have Hno := Lib.hid hno; have Hx := Lib.hid hx
        clear hx hsn hac hcc hok h3 hc hno
        go_wp2_with fail
        refine (noAmount_any c false _ (decide_eq_false Hx.out)).mono ?_
        rintro en w1 ⟨rfl, he⟩
        subst he
        go_wp2
        go_ret2
        exact ⟨by rw [Hno.out]; rfl, br _⟩
    · obtain rfl : k = xs.length := by omega
      have hall := sumF_all xs hok
      by_cases hx : isA (acc xs)
      · have ht : told (acc xs) = (acc xs, 0) := by unfold told; rw [if_pos hx]
        have Hall := Lib.hid (hall.trans ht); have Hx := Lib.hid hx
        clear hall hok hlt h3 hk ht hx
        go_wp2_with fail
        refine (noAmount_any (acc xs) true _ (decide_eq_true Hx.out)).mono ?_
        rintro en w1 ⟨rfl, he⟩
        subst he
        go_wp2
        go_ret2
        exact ⟨by rw [Hall.out]; rfl, br _⟩
      · have ht : told (acc xs) = (0, 8) := by unfold told; rw [if_neg hx]
        have Hall := Lib.hid (hall.trans ht); have Hx := Lib.hid hx
        clear hall hok hlt h3 hk ht hx
        go_wp2_with fail
        refine (noAmount_any (acc xs) false _ (decide_eq_false Hx.out)).mono ?_
        rintro en w1 ⟨rfl, he⟩
        subst he
        go_wp2
        go_ret2
        exact ⟨by rw [Hall.out]; rfl, br _⟩
end Pn
end Go.Proofs.Ytogohocokmhjcaa
