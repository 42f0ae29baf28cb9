/- Are two lists of ints one? The document's comparison. -/
import Derived.Test.YtjicpflgkhdppaaProg
import Derived.Test.YtjicpflgkhdppaaBase2
import Derived.Test.YtjicpflgkhdppaaRd
set_option linter.unusedSimpArgs false
set_option linter.unusedVariables false
namespace Go.Proofs.Ytjicpflgkhdppaa
open Go.RowKit
def SameQ (xs ys : List Int) (w : World) (e : Ending) (w' : World) : Prop := e = .returned (.bool (decide (xs = ys))) ∧ Below w.heap.size w w'
set_option maxHeartbeats 1000000 in
theorem same_any (v u : Value) (xs ys : List Int) (w : World) (h : Rd 1 eI w v xs) (h' : Rd 1 eI w u ys) : Calls Try.prog 17 #[v, u] w (SameQ xs ys w) := by
  have hle := h.len_le
  have hle' := h'.len_le
  obtain ⟨a, cap, rfl, h1, h2, h3⟩ := h
  obtain ⟨a', cap', rfl, h1', h2', h3'⟩ := h'
  by_cases hl : xs.length = ys.length
  · have H3 := Lib.hid h3; have H3' := Lib.hid h3'; clear h3 h3'
    have hne : ((xs.length : Int) != (ys.length : Int)) = false := by simp [hl]
    have HL := Lib.hid hl; clear hl
    go_enter Try.func17, Try.ntmps17
    go_wp2
    go_loopw [5] (fun i wr => ∃ k : Nat, k ≤ xs.length ∧ i = .int .i64 k ∧ (∀ j, j < k → xs[j]? = ys[j]?) ∧ Below w.heap.size w wr) (fun i _ => xs.length - (intOf i).toNat)
    case atStart => exact ⟨0, Nat.zero_le _, rfl, fun j hj => by omega, br w⟩
    case round =>
      obtain ⟨k, hk, rfl, heq, hbw⟩ := hrel
      by_cases hlt : k < xs.length
      · have hlt' : k < ys.length := by have := HL.out; omega
        obtain ⟨b, off, rfl, hbl, hc⟩ := H3.out (by omega)
        obtain ⟨b', off', rfl, hbl', hc'⟩ := H3'.out (by omega)
        have c0 := (hbw.cell (p := ⟨b, off + k, none⟩) hbl).trans (eI_at hc k hlt)
        have c1 := (hbw.cell (p := ⟨b', off' + k, none⟩) hbl').trans (eI_at hc' k hlt')
        have i1 : (k : Int) < (xs.length : Int) := by omega
        have i2 : (k : Int) < (ys.length : Int) := by omega
        have i0 : (0 : Int) ≤ (k : Int) := by omega
        by_cases he : xs[k] = ys[k]
        · have hstep : ∀ j, j < k + 1 → xs[j]? = ys[j]? := fun j hj => by
            by_cases e : j = k
            · subst e; rw [List.getElem?_eq_getElem hlt, List.getElem?_eq_getElem hlt', he]
            · exact heq j (by omega)
          have hn : (xs[k] != ys[k]) = false := by simp [he]
          have HS := Lib.hid hstep
          clear hstep he heq hc hc' H3 H3'
          generalize xs[k] = x at *
          generalize ys[k] = y at *
          go_wp2_with fail
          go_quiet (fail)
          go_wp2
          go_roundw
          case rel => exact ⟨k + 1, by omega, by go_num, HS.out, by first | exact bn hbw _ | exact hbw⟩
          case measure => simp [intOf]; omega
        · have hno : decide (xs = ys) = false := decide_eq_false (fun e => he (by subst e; rfl))
          have hn : (xs[k] != ys[k]) = true := by simp [he]
          have HN := Lib.hid hno
          clear hno he heq hc hc' H3 H3'
          generalize xs[k] = x at *
          generalize ys[k] = y at *
          go_wp2_with fail
          go_quiet (fail)
          go_wp2
          go_ret
          exact ⟨by rw [HN.out]; rfl, by first | exact bn hbw _ | exact hbw⟩
      · have hall : decide (xs = ys) = true := decide_eq_true (List.ext_getElem? (fun j => by
          by_cases hj : j < k
          · exact heq j hj
          · rw [List.getElem?_eq_none (by omega), List.getElem?_eq_none (by have := HL.out; omega)]))
        have HA := Lib.hid hall
        clear hall heq H3 H3'
        go_wp2
        go_ret
        exact ⟨by rw [HA.out]; rfl, hbw⟩
  · have hno : decide (xs = ys) = false := decide_eq_false (fun e => hl (by rw [e]))
    have hne : ((xs.length : Int) != (ys.length : Int)) = true := by simp; omega
    have HN := Lib.hid hno
    clear hno hl h3 h3'
    go_enter Try.func17, Try.ntmps17
    go_wp2
    go_ret
    exact ⟨by rw [HN.out]; rfl, br _⟩
end Go.Proofs.Ytjicpflgkhdppaa
