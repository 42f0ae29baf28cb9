/- Fares: are two of them one? The document's comparison. -/
import Derived.Test.YtcppeligeodomaaFareOf
import Derived.Test.YtcppeligeodomaaSame
set_option linter.unusedVariables false
namespace Go.Proofs.Ytcppeligeodomaa
open Go.RowKit
namespace Fa
abbrev BoolQ (b : Bool) (w : World) (e : Ending) (w' : World) : Prop := e = .returned (.bool b) ∧ Below w.heap.size w w'
set_option maxHeartbeats 4000000 in
theorem sameF_any (v u : Value) (xs ys : List Rw) (w : World) (h : RdF w v xs) (h' : RdF w u ys) : Calls Try.prog 23 #[v, u] w (BoolQ (decide (mat xs = mat ys)) w) := by
  have hle := h.rd.len_le
  have hle' := h'.rd.len_le
  have HX := Lib.hid h.ln; have HY := Lib.hid h'.ln
  obtain ⟨a, cap, rfl, h1, h2, h3⟩ := h.rd
  obtain ⟨a', cap', rfl, h1', h2', h3'⟩ := h'.rd
  clear h h'
  by_cases hl : xs.length = ys.length
  · have H3 := Lib.hid h3; have H3' := Lib.hid h3'; clear h3 h3'
    have hne : ((xs.length : Int) != (ys.length : Int)) = false := by simp [hl]
    have HL := Lib.hid hl; clear hl
    go_enter Try.func23, Try.ntmps23
    go_wp2
    go_loopw [5] (fun i wr => ∃ k : Nat, k ≤ xs.length ∧ i = .int .i64 k ∧ (∀ j, j < k → (mat xs)[j]? = (mat ys)[j]?) ∧ Below w.heap.size w wr) (fun i _ => xs.length - (intOf i).toNat)
    case atStart => exact ⟨0, Nat.zero_le _, rfl, fun j hj => by omega, br w⟩
    case round =>
      obtain ⟨k, hk, rfl, heq, hbw⟩ := hrel
      by_cases hlt : k < xs.length
      · have hlt' : k < ys.length := by have := HL.out; omega
        obtain ⟨b, off, rfl, hbl, hc⟩ := H3.out (by omega)
        obtain ⟨b', off', rfl, hbl', hc'⟩ := H3'.out (by omega)
        have c0 := (hbw.cell (p := ⟨b, off + k, none⟩) hbl).trans (eR_at hc k hlt)
        have c1 := (hbw.cell (p := ⟨b', off' + k, none⟩) hbl').trans (eR_at hc' k hlt')
        have i1 : (k : Int) < (xs.length : Int) := by omega
        have i2 : (k : Int) < (ys.length : Int) := by omega
        have i0 : (0 : Int) ≤ (k : Int) := by omega
        have HBW := Lib.hid hbw
        have gx : (mat xs)[k]? = some xs[k].ls := by rw [List.getElem?_map, List.getElem?_eq_getElem hlt]; rfl
        have gy : (mat ys)[k]? = some ys[k].ls := by rw [List.getElem?_map, List.getElem?_eq_getElem hlt']; rfl
        have hno0 : ¬ xs[k].ls = ys[k].ls → decide (mat xs = mat ys) = false := fun hn => decide_eq_false (fun e => hn (by rw [e, gy] at gx; injection gx with e; exact e.symm))
        have CS := Lib.hid (fun w1 (hw1 : Below w.heap.size w w1) => same_any xs[k].v ys[k].v xs[k].ls ys[k].ls w1 ((HX.out _ (List.getElem_mem hlt)).below hw1) ((HY.out _ (List.getElem_mem hlt')).below hw1))
        have hwd : Below w.heap.size w wr.drew := bn hbw 1
        by_cases hls : xs[k].ls = ys[k].ls
        · have HDE := Lib.hid (decide_eq_true hls)
          have hstep : ∀ j, j < k + 1 → (mat xs)[j]? = (mat ys)[j]? := fun j hj => by
            by_cases e : j = k
            · subst e; rw [gx, gy, hls]
            · exact heq j (by omega)
          have HS := Lib.hid hstep
          clear hstep heq hc hc' H3 H3' gx gy hno0 hls hbw
          unfold Rw.v at c0 c1 CS
          unfold SameQ at CS
          rw [HDE.out] at CS
          generalize xs[k].a = xa at *; generalize xs[k].ls.length = xl at *; generalize xs[k].cap = xc at *
          generalize ys[k].a = ya at *; generalize ys[k].ls.length = yl at *; generalize ys[k].cap = yc at *
          go_wp2_with fail
          go_region_held3 (fun w' => w'.cell? ⟨b, off + k, none⟩ = some (.slice xa xl xc) ∧ w'.cell? ⟨b', off' + k, none⟩ = some (.slice ya yl yc))
            (first | (exact ⟨kp b4 c0, kp b4 c1⟩) | (go_split_ands; exact ⟨kp b4 c0, kp b4 c1⟩) | go_keep)
            (first
              | (go_at_call 25; (with_reducible refine (CS.out _ hwd).mono ?_); rintro en w4 ⟨rfl, hb4⟩; have b4 : Below wr.heap.size wr w4 := bd (br wr) hb4)
              | fail)
          have HB4 := Lib.hid (bt HBW.out b4)
          go_wp2
          go_roundw
          case rel => exact ⟨k + 1, by omega, by go_num, HS.out, HB4.out⟩
          case measure => simp [intOf]; omega
        · have HDE := Lib.hid (decide_eq_false hls)
          have HN := Lib.hid (hno0 hls)
          clear heq hc hc' H3 H3' gx gy hno0 hls hbw
          unfold Rw.v at c0 c1 CS
          unfold SameQ at CS
          rw [HDE.out] at CS
          generalize xs[k].a = xa at *; generalize xs[k].ls.length = xl at *; generalize xs[k].cap = xc at *
          generalize ys[k].a = ya at *; generalize ys[k].ls.length = yl at *; generalize ys[k].cap = yc at *
          go_wp2_with fail
          go_region_held3 (fun w' => w'.cell? ⟨b, off + k, none⟩ = some (.slice xa xl xc) ∧ w'.cell? ⟨b', off' + k, none⟩ = some (.slice ya yl yc))
            (first | (exact ⟨kp b4 c0, kp b4 c1⟩) | (go_split_ands; exact ⟨kp b4 c0, kp b4 c1⟩) | go_keep)
            (first
              | (go_at_call 25; (with_reducible refine (CS.out _ hwd).mono ?_); rintro en w4 ⟨rfl, hb4⟩; have b4 : Below wr.heap.size wr w4 := bd (br wr) hb4)
              | fail)
          have HB4 := Lib.hid (bt HBW.out b4)
          go_wp2
          go_ret
          exact ⟨by rw [HN.out]; rfl, HB4.out⟩
      · have hall : decide (mat xs = mat ys) = true := decide_eq_true (List.ext_getElem? (fun j => by
          by_cases hj : j < k
          · exact heq j hj
          · rw [List.getElem?_eq_none (by simp; omega), List.getElem?_eq_none (by have := HL.out; simp; omega)]))
        have HA := Lib.hid hall
        clear hall heq H3 H3'
        go_wp2
        go_ret
        exact ⟨by rw [HA.out]; rfl, hbw⟩
  · have hno : decide (mat xs = mat ys) = false := decide_eq_false (fun e => hl (by have := congrArg List.length e; simpa using this))
    have hne : ((xs.length : Int) != (ys.length : Int)) = true := by simp; omega
    have HN := Lib.hid hno
    clear hno hl h3 h3'
    go_enter Try.func23, Try.ntmps23
    go_wp2
    go_ret
    exact ⟨by rw [HN.out]; rfl, br _⟩
end Fa
end Go.Proofs.Ytcppeligeodomaa
