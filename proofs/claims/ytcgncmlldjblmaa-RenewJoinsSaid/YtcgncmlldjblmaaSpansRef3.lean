/- Sets of days: the document's ends, and a set made of them. -/
import Derived.Test.YtcgncmlldjblmaaSpansRef2
set_option linter.unusedSimpArgs false
set_option linter.unusedVariables false
namespace Go.Proofs.Ytcgncmlldjblmaa
open Go.RowKit
namespace Sn
set_option maxRecDepth 100000 in
set_option maxHeartbeats 4000000 in
theorem ends_any (v : Value) (l : List Sp) (w : World) (h : RdE elS w v l) (hl : l.length ≤ 128) : Calls Try.prog 65 #[v] w fun e w' => ∃ u, e = .returned u ∧ ROwn elI w' w.heap.size u (endsL l) ∧ Below w.heap.size w w' := by
  obtain ⟨a, cap, rfl, h1, h2, h3⟩ := h
  have H3 := Lib.hid h3; clear h3
  have WI := Lib.hid (fun v l n w h hl => with_any v l n w h hl)
  go_enter Try.func65, Try.ntmps65
  go_wp2
  go_loopw [3, 4] (fun o i wr => ∃ (k : Nat), k ≤ l.length ∧ i = .int .i64 k ∧ ROwn elI wr w.heap.size o (endsL (l.take k)) ∧ Below w.heap.size w wr) (fun _ i _ => l.length - (intOf i).toNat)
  case atStart => exact ⟨0, Nat.zero_le _, rfl, ROwn.nil _ _, br _⟩
  case round =>
    obtain ⟨k, hk, rfl, hown, hbw⟩ := hrel
    have HBW := Lib.hid hbw; have HOWN := Lib.hid hown
    by_cases hlt : k < l.length
    · obtain ⟨g, off, rfl, hbl, hc⟩ := H3.out (by omega)
      obtain ⟨q0, q1⟩ := eS_at hc k hlt
      have d0 := (hbw.cell (p := ⟨g, off + k * 2, none⟩) hbl).trans q0
      have d1 := (hbw.cell (p := ⟨g, off + k * 2 + 1, none⟩) hbl).trans q1
      have HQ1 := Lib.hid q1
      have i1 : (k : Int) < (l.length : Int) := by omega
      have i0 : (0 : Int) ≤ (k : Int) := by omega
      have HST : RowKit.Hid (endsL (l.take (k + 1)) = withL l[k].2 false (withL l[k].1 false (endsL (l.take k)))) := Lib.hid (by
        rw [List.take_succ_eq_append_getElem hlt, endsL_snoc])
      have HLN : RowKit.Hid ((endsL (l.take k)).length ≤ 2 * k) := Lib.hid (by have := ends_len (l.take k); rw [List.length_take, Nat.min_eq_left (by omega)] at this; exact this)
      clear hc q0 q1 hown hbw H3
      generalize endsL (l.take k) = E at *
      generalize l[k].1 = p at *; generalize l[k].2 = q at *
      have HW1 := Lib.hid (fun u w' h => WI.out u E p w' h (by have := HLN.out; omega))
      have HW2 := Lib.hid (fun u w' h => WI.out u (withL p false E) q w' h (by have := HLN.out; have := with_len p E false; omega))
      clear WI
      go_wp2_with fail
      have HRDd : RowKit.Hid (RdE elI wr.drew u3 E) := Lib.hid (HOWN.out.rd.below (bn (br wr) 1))
      have e0 : wr.drew.cell? ⟨g, off + k * 2, none⟩ = some (.int .i64 p) := d0
      have e1 : wr.drew.cell? ⟨g, off + k * 2 + 1, none⟩ = some (.int .i64 q) := d1
      go_region_held3 (fun w' => w'.cell? ⟨g, off + k * 2, none⟩ = some (.int .i64 p) ∧ w'.cell? ⟨g, off + k * 2 + 1, none⟩ = some (.int .i64 q))
        (first | exact ⟨kp b2 (kp b1 e0), kp b2 (kp b1 e1)⟩ | (go_split_ands; exact ⟨kp b2 (kp b1 e0), kp b2 (kp b1 e1)⟩) | exact ⟨kp b1 e0, kp b1 e1⟩ | (go_split_ands; exact ⟨kp b1 e0, kp b1 e1⟩) | go_keep | fail)
        (first
          | (go_at_call 73; (with_reducible refine (HW1.out _ _ HRDd.out).mono ?_); rintro en w1 ⟨u1, rfl, ho1, b1⟩)
          | (go_at_call 73; (with_reducible refine (HW2.out _ _ ho1.rd).mono ?_); rintro en w2 ⟨u2, rfl, ho2, b2⟩) | fail)
      go_wp2
      go_roundw
      case rel => exact ⟨k + 1, by omega, by go_num, by rw [HST.out]; exact ho2.base (by have h1 : w.heap.size ≤ wr.drew.heap.size := HBW.out.size; have := b1.size; omega), bt (bd HBW.out b1) b2⟩
      case measure => simp [intOf]; omega
    · have ek : k = l.length := by omega
      subst ek
      rw [List.take_length] at hown
      have HO2 := Lib.hid hown
      have HBW := Lib.hid hbw
      clear hown hbw HOWN H3
      go_wp2
      go_ret
      exact ⟨_, rfl, HO2.out, HBW.out⟩
end Sn
end Go.Proofs.Ytcgncmlldjblmaa
