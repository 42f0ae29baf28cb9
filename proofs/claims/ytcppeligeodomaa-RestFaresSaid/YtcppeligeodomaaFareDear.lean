/- Fares: is none of them dearer? The document's comparison. -/
import Derived.Test.YtcppeligeodomaaFareSame
set_option linter.unusedVariables false
namespace Go.Proofs.Ytcppeligeodomaa
open Go.RowKit
namespace Fa
/-- nowhere dearer, as far as both go -/
def NoDear (xs ys : List Rw) : Prop := xs.length = ys.length ∧ ∀ (i : Nat) (hi : i < xs.length) (hi' : i < ys.length) (k : Nat) (hk : k < xs[i].ls.length) (hk' : k < ys[i].ls.length), xs[i].ls[k] ≤ ys[i].ls[k]
set_option maxHeartbeats 4000000 in
theorem dear_any (r : Bool) (v u : Value) (xs ys : List Rw) (w : World) (h : RdF w v xs) (h' : RdF w u ys) (hr : r = true ↔ NoDear xs ys) : Calls Try.prog 24 #[v, u] w (BoolQ r w) := by
  have hle := h.rd.len_le
  have hle' := h'.rd.len_le
  have HX := Lib.hid h.ln; have HY := Lib.hid h'.ln
  have HRR := Lib.hid hr
  obtain ⟨a, cap, rfl, h1, h2, h3⟩ := h.rd
  obtain ⟨a', cap', rfl, h1', h2', h3'⟩ := h'.rd
  clear h h' hr
  by_cases hl : xs.length = ys.length
  · have H3 := Lib.hid h3; have H3' := Lib.hid h3'; clear h3 h3'
    have hne : ((xs.length : Int) != (ys.length : Int)) = false := by simp [hl]
    have HL := Lib.hid hl; clear hl
    go_enter Try.func24, Try.ntmps24
    go_wp2
    go_loopw [5] (fun i wr => ∃ k : Nat, k ≤ xs.length ∧ i = .int .i64 k ∧ (∀ (i : Nat) (hi : i < xs.length) (hi' : i < ys.length), i < k → ∀ (q : Nat) (hk : q < xs[i].ls.length) (hk' : q < ys[i].ls.length), xs[i].ls[q] ≤ ys[i].ls[q]) ∧ Below w.heap.size w wr) (fun i _ => xs.length - (intOf i).toNat)
    case atStart => exact ⟨0, Nat.zero_le _, rfl, fun i hi hi' hj => by omega, br w⟩
    case round =>
      obtain ⟨k, hk, rfl, hall, hbw⟩ := hrel
      have HBW := Lib.hid hbw
      by_cases hlt : k < xs.length
      · have hlt' : k < ys.length := by have := HL.out; omega
        obtain ⟨b, off, rfl, hbl, hc⟩ := H3.out (by omega)
        obtain ⟨b', off', rfl, hbl', hc'⟩ := H3'.out (by omega)
        have D0 := Lib.hid (eR_at hc k hlt)
        have D1 := Lib.hid (eR_at hc' k hlt')
        have i1 : (k : Int) < (xs.length : Int) := by omega
        have i2 : (k : Int) < (ys.length : Int) := by omega
        have i0 : (0 : Int) ≤ (k : Int) := by omega
        have hrx := HX.out _ (List.getElem_mem hlt)
        have hry := HY.out _ (List.getElem_mem hlt')
        have HALL := Lib.hid hall
        have HNO : RowKit.Hid (∀ (q : Nat) (hk : q < xs[k].ls.length) (hk' : q < ys[k].ls.length), ¬ xs[k].ls[q] ≤ ys[k].ls[q] → r = false) := Lib.hid (fun q h1 h2 h3 => by
          rcases hrr : r with _ | _
          · rfl
          · exact absurd ((HRR.out.1 hrr).2 k hlt hlt' q h1 h2) h3)
        have HYES : RowKit.Hid ((∀ (q : Nat) (hk : q < xs[k].ls.length) (hk' : q < ys[k].ls.length), xs[k].ls[q] ≤ ys[k].ls[q]) → ∀ (i : Nat) (hi : i < xs.length) (hi' : i < ys.length), i < k + 1 → ∀ (q : Nat) (hk : q < xs[i].ls.length) (hk' : q < ys[i].ls.length), xs[i].ls[q] ≤ ys[i].ls[q]) := Lib.hid (fun hh i hi hi' hik => by
          by_cases e : i = k
          · subst e; exact hh
          · exact HALL.out i hi hi' (by omega))
        unfold RdI Rw.v at hrx hry
        unfold Rw.v at D0 D1
        have hlx := hrx.len_le
        have hly := hry.len_le
        clear hc hc' H3 H3' hall hbw HX HY HRR HALL
        generalize xs[k].ls = lx at *; generalize xs[k].a = xa at *; generalize xs[k].cap = xc at *
        generalize ys[k].ls = ly at *; generalize ys[k].a = ya at *; generalize ys[k].cap = yc at *
        obtain ⟨a1, cap1, e, g1, g2, g3⟩ := hrx
        injection e with e1 e2 e3
        subst e1 e3
        clear e2
        obtain ⟨a2, cap2, e, g1', g2', g3'⟩ := hry
        injection e with e1 e2 e3
        subst e1 e3
        clear e2
        have G3 := Lib.hid g3; have G3' := Lib.hid g3'
        clear g3 g3'
        go_wp2
        go_loopw [6] (fun i wy => ∃ j : Nat, j ≤ lx.length ∧ i = .int .i64 j ∧ (∀ (q : Nat) (hk : q < lx.length) (hk' : q < ly.length), q < j → lx[q] ≤ ly[q]) ∧ Below w.heap.size w wy) (fun i _ => lx.length - (intOf i).toNat)
        case atStart => exact ⟨0, Nat.zero_le _, rfl, fun q h1 h2 h => by omega, HBW.out⟩
        case round =>
          obtain ⟨j, hj, rfl, hall, hby⟩ := hrel
          have HBY := Lib.hid hby
          have f0 := kp hby D0.out; have f1 := kp hby D1.out
          by_cases hjx : j < lx.length
          · have i3 : (j : Int) < (lx.length : Int) := by omega
            have i4 : (0 : Int) ≤ (j : Int) := by omega
            by_cases hjy : j < ly.length
            · have i5 : (j : Int) < (ly.length : Int) := by omega
              obtain ⟨p, po, rfl, hp, hpc⟩ := G3.out (by omega)
              obtain ⟨p', po', rfl, hp', hpc'⟩ := G3'.out (by omega)
              have e0 := (hby.cell (p := ⟨p, po + j, none⟩) hp).trans (eI_at hpc j hjx)
              have e1 := (hby.cell (p := ⟨p', po' + j, none⟩) hp').trans (eI_at hpc' j hjy)
              by_cases hd : lx[j] ≤ ly[j]
              · have hall2 : ∀ (q : Nat) (hk : q < lx.length) (hk' : q < ly.length), q < j + 1 → lx[q] ≤ ly[q] := fun q h1 h2 hq => by
                  by_cases e : q = j
                  · subst e; exact hd
                  · exact hall q h1 h2 (by omega)
                have HA := Lib.hid hall2
                have hng : ¬ ly[j] < lx[j] := by omega
                clear hall hall2 hby hpc hpc' G3 G3' hd
                generalize lx[j] = x at *; generalize ly[j] = y at *
                go_wp2_with fail
                go_quiet (fail)
                go_wp2
                go_roundw
                case rel => exact ⟨j + 1, by omega, by go_num, HA.out, by first | exact bn HBY.out _ | exact HBY.out⟩
                case measure => simp [intOf]; omega
              · have HR := Lib.hid (HNO.out j hjx hjy (by omega))
                have hng : ly[j] < lx[j] := by omega
                clear hall hby hpc hpc' G3 G3' hd
                generalize lx[j] = x at *; generalize ly[j] = y at *
                go_wp2_with fail
                go_quiet (fail)
                go_wp2
                go_ret
                exact ⟨by rw [HR.out]; rfl, by first | exact bn HBY.out _ | exact HBY.out⟩
            · have i5 : ¬ (j : Int) < (ly.length : Int) := by omega
              have HA := Lib.hid (HYES.out (fun q h1 h2 => hall q h1 h2 (by omega)))
              clear hall hby G3 G3'
              go_wp2
              go_roundw
              case rel => exact ⟨k + 1, by omega, by go_num, HA.out, HBY.out⟩
              case measure => simp [intOf]; omega
          · have e : j = lx.length := by omega
            subst e
            have HA := Lib.hid (HYES.out (fun q h1 h2 => hall q h1 h2 h1))
            clear hall hby G3 G3'
            go_wp2
            go_roundw
            case rel => exact ⟨k + 1, by omega, by go_num, HA.out, HBY.out⟩
            case measure => simp [intOf]; omega
      · have hyes : r = true := HRR.out.2 ⟨HL.out, fun i hi hi' => hall i hi hi' (by omega)⟩
        have HA := Lib.hid hyes
        clear hyes hall H3 H3'
        go_wp2
        go_ret
        exact ⟨by rw [HA.out]; rfl, hbw⟩
  · have hno : r = false := by
      rcases hrr : r with _ | _
      · rfl
      · exact absurd (HRR.out.1 hrr).1 hl
    have hne : ((xs.length : Int) != (ys.length : Int)) = true := by simp; omega
    have HN := Lib.hid hno
    clear hno hl h3 h3'
    go_enter Try.func24, Try.ntmps24
    go_wp2
    go_ret
    exact ⟨by rw [HN.out]; rfl, br _⟩
end Fa
end Go.Proofs.Ytcppeligeodomaa
