/- Offers that come in, and their check: package cover and the document's answer. -/
import Derived.Test.YtogohocokmhjcaaProg
import Derived.Test.YtogohocokmhjcaaCoverPlain
import Derived.Test.YtogohocokmhjcaaBase2
import Derived.Test.YtogohocokmhjcaaRd
set_option linter.unusedVariables false
namespace Go.Proofs.Ytogohocokmhjcaa
open Go.RowKit
namespace Cv
def eO (o : Offer) : List Value := [.int .i64 o.1, .int .i64 o.2]
theorem eO_at {w : World} {b off : Nat} {xs : List Offer} (h : ∀ (i : Nat) (h : i < xs.length) (j : Nat) (u : Value), (eO xs[i])[j]? = some u → w.cell? ⟨b, off + (i * 2 + j), none⟩ = some u)
    (i : Nat) (hi : i < xs.length) : w.cell? ⟨b, off + i * 2, none⟩ = some (.int .i64 xs[i].1) ∧ w.cell? ⟨b, off + i * 2 + 1, none⟩ = some (.int .i64 xs[i].2) :=
  ⟨by have := h i hi 0 _ rfl; simpa using this, by have := h i hi 1 _ rfl; simpa [Nat.add_assoc] using this⟩
theorem check_no (l : List Offer) (k : Nat) (h : k < l.length) (h1 : l.length ≤ 8) (hx : ¬ okO l[k]) : check l = 3 := by
  unfold check; rw [if_neg (by omega), if_neg (by omega), if_neg]; intro g; exact hx (g _ (List.getElem_mem _))
theorem check_all (l : List Offer) (h0 : l.length ≠ 0) (h1 : l.length ≤ 8) (h : ∀ x ∈ l.take l.length, okO x) : check l = 0 := by
  rw [List.take_length] at h
  unfold check; rw [if_neg h0, if_neg (by omega), if_pos h]
theorem take_snocO (l : List Offer) (k : Nat) (h : k < l.length) : l.take (k + 1) = l.take k ++ [l[k]] := by simp
theorem okO_snoc (l : List Offer) (k : Nat) (h : k < l.length) (g : ∀ x ∈ l.take k, okO x) (hx : okO l[k]) : ∀ x ∈ l.take (k + 1), okO x := by
  rw [take_snocO l k h]; intro x hx'
  rcases List.mem_append.1 hx' with a | a
  · exact g x a
  · simp at a; rw [a]; exact hx
def ChkQ (l : List Offer) (w : World) (e : Ending) (w' : World) : Prop := e = .returned (.int .i64 (check l)) ∧ Below w.heap.size w w'
set_option maxHeartbeats 1000000 in
theorem check_any (v : Value) (xs : List Offer) (w : World) (h : Rd 2 eO w v xs) : Calls Try.prog 27 #[v] w (ChkQ xs w) := by
  have hle := h.len_le
  obtain ⟨a, cap, rfl, h1, h2, h3⟩ := h
  by_cases hl0 : xs.length = 0
  · have hc : check xs = 5 := by unfold check; rw [if_pos hl0]
    have Hc := Lib.hid hc; clear hc h3
    have hb : ((xs.length : Int) == 0) = true := by simp [hl0]
    clear hl0
    go_enter Try.func27, Try.ntmps27
    go_wp2
    go_ret
    exact ⟨by rw [Hc.out]; rfl, br _⟩
  · have hb : ((xs.length : Int) == 0) = false := by simp [hl0]
    by_cases hl8 : xs.length ≤ 8
    · have Hl0 := Lib.hid hl0; clear hl0
      have H3 := Lib.hid h3; clear h3
      go_enter Try.func27, Try.ntmps27
      go_wp2
      go_loopw [15] (fun i wr => ∃ k : Nat, k ≤ xs.length ∧ (∀ x ∈ xs.take k, okO x) ∧ i = .int .i64 k ∧ Below w.heap.size w wr) (fun i _ => xs.length - (intOf i).toNat)
      case atStart => exact ⟨0, Nat.zero_le _, by simp, rfl, br _⟩
      case round =>
        obtain ⟨k, hk, hok, rfl, hbw⟩ := hrel
        by_cases hlt : k < xs.length
        · obtain ⟨b, off, rfl, hbl, hc⟩ := H3.out (by omega)
          obtain ⟨c0, c1⟩ := eO_at hc k hlt
          have c0 := (hbw.cell (p := ⟨b, off + k * 2, none⟩) hbl).trans c0
          have c1 := (hbw.cell (p := ⟨b, off + k * 2 + 1, none⟩) hbl).trans c1
          clear hc H3
          have hyes := okO_snoc xs k hlt hok
          have hno := check_no xs k hlt hl8
          generalize xs[k] = c at *
          obtain ⟨cd, cp⟩ := c
          have Hyes := Lib.hid hyes; have Hno := Lib.hid hno
          clear hyes hno hok
          rcases (show (1 ≤ cd ∧ cd ≤ 400 ∧ 0 ≤ cp ∧ cp ≤ 1000000) ∨ cd < 1 ∨ (1 ≤ cd ∧ 400 < cd) ∨ (1 ≤ cd ∧ cd ≤ 400 ∧ cp < 0) ∨ (1 ≤ cd ∧ cd ≤ 400 ∧ 0 ≤ cp ∧ 1000000 < cp) by omega) with ⟨q1, q2, q3, q4⟩ | q1 | ⟨q1, q2⟩ | ⟨q1, q2, q3⟩ | ⟨q1, q2, q3, q4⟩
          · have hyes := Lib.hid (Hyes.out ⟨q1, q2, q3, q4⟩)
            clear Hyes Hno
            go_wp2
            go_roundw
            case rel => exact ⟨k + 1, by omega, hyes.out, by go_num, by first | exact hbw | exact hbw.alloc hbw.size _⟩
            case measure => simp [intOf]; omega
          all_goals
            have hno := Lib.hid (Hno.out (by unfold okO; omega))
            clear Hyes Hno
            go_wp2
            go_ret
            exact ⟨by rw [hno.out]; rfl, by first | exact hbw | exact hbw.alloc hbw.size _⟩
        · obtain rfl : k = xs.length := by omega
          have hall := Lib.hid (check_all xs Hl0.out hl8 hok)
          clear hok hlt H3 hk
          go_wp2
          go_ret
          exact ⟨by rw [hall.out]; rfl, hbw⟩
    · have hc : check xs = 2 := by unfold check; rw [if_neg hl0, if_pos (by omega)]
      have Hc := Lib.hid hc; clear hc h3 hl0
      go_enter Try.func27, Try.ntmps27
      go_wp2
      go_ret
      exact ⟨by rw [Hc.out]; rfl, br _⟩
set_option maxHeartbeats 1000000 in
theorem checkR_any (v : Value) (xs : List Offer) (w : World) (h : Rd 2 eO w v xs) : Calls Try.prog 28 #[v] w (ChkQ xs w) := by
  have hle := h.len_le
  obtain ⟨a, cap, rfl, h1, h2, h3⟩ := h
  by_cases hl0 : xs.length = 0
  · have hc : check xs = 5 := by unfold check; rw [if_pos hl0]
    have Hc := Lib.hid hc; clear hc h3
    have hb : ((xs.length : Int) == 0) = true := by simp [hl0]
    clear hl0
    go_enter Try.func28, Try.ntmps28
    go_wp2
    go_ret
    exact ⟨by rw [Hc.out]; rfl, br _⟩
  · have hb : ((xs.length : Int) == 0) = false := by simp [hl0]
    by_cases hl8 : xs.length ≤ 8
    · have Hl0 := Lib.hid hl0; clear hl0
      have H3 := Lib.hid h3; clear h3
      go_enter Try.func28, Try.ntmps28
      go_wp2
      go_loopw [3] (fun i wr => ∃ k : Nat, k ≤ xs.length ∧ (∀ x ∈ xs.take k, okO x) ∧ i = .int .i64 k ∧ Below w.heap.size w wr) (fun i _ => xs.length - (intOf i).toNat)
      case atStart => exact ⟨0, Nat.zero_le _, by simp, rfl, br _⟩
      case round =>
        obtain ⟨k, hk, hok, rfl, hbw⟩ := hrel
        by_cases hlt : k < xs.length
        · obtain ⟨b, off, rfl, hbl, hc⟩ := H3.out (by omega)
          obtain ⟨c0, c1⟩ := eO_at hc k hlt
          have c0 := (hbw.cell (p := ⟨b, off + k * 2, none⟩) hbl).trans c0
          have c1 := (hbw.cell (p := ⟨b, off + k * 2 + 1, none⟩) hbl).trans c1
          clear hc H3
          have hyes := okO_snoc xs k hlt hok
          have hno := check_no xs k hlt hl8
          generalize xs[k] = c at *
          obtain ⟨cd, cp⟩ := c
          have Hyes := Lib.hid hyes; have Hno := Lib.hid hno
          clear hyes hno hok
          rcases (show (1 ≤ cd ∧ cd ≤ 400 ∧ 0 ≤ cp ∧ cp ≤ 1000000) ∨ cd < 1 ∨ (1 ≤ cd ∧ 400 < cd) ∨ (1 ≤ cd ∧ cd ≤ 400 ∧ cp < 0) ∨ (1 ≤ cd ∧ cd ≤ 400 ∧ 0 ≤ cp ∧ 1000000 < cp) by omega) with ⟨q1, q2, q3, q4⟩ | q1 | ⟨q1, q2⟩ | ⟨q1, q2, q3⟩ | ⟨q1, q2, q3, q4⟩
          · have hyes := Lib.hid (Hyes.out ⟨q1, q2, q3, q4⟩)
            clear Hyes Hno
            go_wp2
            go_roundw
            case rel => exact ⟨k + 1, by omega, hyes.out, by go_num, by first | exact hbw | exact hbw.alloc hbw.size _⟩
            case measure => simp [intOf]; omega
          all_goals
            have hno := Lib.hid (Hno.out (by unfold okO; omega))
            clear Hyes Hno
            go_wp2
            go_ret
            exact ⟨by rw [hno.out]; rfl, by first | exact hbw | exact hbw.alloc hbw.size _⟩
        · obtain rfl : k = xs.length := by omega
          have hall := Lib.hid (check_all xs Hl0.out hl8 hok)
          clear hok hlt H3 hk
          go_wp2
          go_ret
          exact ⟨by rw [hall.out]; rfl, hbw⟩
    · have hc : check xs = 2 := by unfold check; rw [if_neg hl0, if_pos (by omega)]
      have Hc := Lib.hid hc; clear hc h3 hl0
      go_enter Try.func28, Try.ntmps28
      go_wp2
      go_ret
      exact ⟨by rw [Hc.out]; rfl, br _⟩
end Cv
end Go.Proofs.Ytogohocokmhjcaa
