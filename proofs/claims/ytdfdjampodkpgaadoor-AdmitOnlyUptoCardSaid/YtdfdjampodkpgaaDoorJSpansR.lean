/- Joined by shake.py: SpansRef. -/
import Derived.Test.YtdfdjampodkpgaaDoorJSpans
set_option linter.unusedSimpArgs false
set_option linter.unusedVariables false

/-! SpansRef -/
section
/- Sets of days: the document's functions. -/
set_option linter.unusedSimpArgs false
set_option linter.unusedVariables false
namespace Go.Proofs.YtdfdjampodkpgaaDoor
open Go.RowKit
namespace Sn
def SameSQ (xs ys : List Sp) (w : World) (e : Ending) (w' : World) : Prop := e = .returned (.bool (decide (xs = ys))) ∧ Below w.heap.size w w'
set_option maxHeartbeats 1000000 in
theorem sameS_any (v u : Value) (xs ys : List Sp) (w : World) (h : RdE elS w v xs) (h' : RdE elS w u ys) : Calls Tryd.prog 38 #[v, u] w (SameSQ xs ys w) := by
  have hle := h.len_le
  have hle' := h'.len_le
  obtain ⟨a, cap, rfl, h1, h2, h3⟩ := h
  obtain ⟨a', cap', rfl, h1', h2', h3'⟩ := h'
  by_cases hl : xs.length = ys.length
  · have H3 := Lib.hid h3; have H3' := Lib.hid h3'; clear h3 h3'
    have hne : ((xs.length : Int) != (ys.length : Int)) = false := by simp [hl]
    have HL := Lib.hid hl; clear hl
    go_enter Tryd.func38, Tryd.ntmps38
    go_wp2
    go_loopw [5] (fun i wr => ∃ k : Nat, k ≤ xs.length ∧ i = .int .i64 k ∧ (∀ j, j < k → xs[j]? = ys[j]?) ∧ Below w.heap.size w wr) (fun i _ => xs.length - (intOf i).toNat)
    case atStart => exact ⟨0, Nat.zero_le _, rfl, fun j hj => by omega, br w⟩
    case round =>
      obtain ⟨k, hk, rfl, heq, hbw⟩ := hrel
      by_cases hlt : k < xs.length
      · have hlt' : k < ys.length := by have := HL.out; omega
        obtain ⟨b, off, rfl, hbl, hc⟩ := H3.out (by omega)
        obtain ⟨b', off', rfl, hbl', hc'⟩ := H3'.out (by omega)
        obtain ⟨q0, q1⟩ := eS_at hc k hlt
        obtain ⟨q2, q3⟩ := eS_at hc' k hlt'
        have c0 := (hbw.cell (p := ⟨b, off + k * 2, none⟩) hbl).trans q0
        have c1 := (hbw.cell (p := ⟨b, off + k * 2 + 1, none⟩) hbl).trans q1
        have c2 := (hbw.cell (p := ⟨b', off' + k * 2, none⟩) hbl').trans q2
        have c3 := (hbw.cell (p := ⟨b', off' + k * 2 + 1, none⟩) hbl').trans q3
        clear q0 q1 q2 q3
        have i1 : (k : Int) < (xs.length : Int) := by omega
        have i2 : (k : Int) < (ys.length : Int) := by omega
        have i0 : (0 : Int) ≤ (k : Int) := by omega
        by_cases he : xs[k] = ys[k]
        · have hstep : ∀ j, j < k + 1 → xs[j]? = ys[j]? := fun j hj => by
            by_cases e : j = k
            · subst e; rw [List.getElem?_eq_getElem hlt, List.getElem?_eq_getElem hlt', he]
            · exact heq j (by omega)
          have hn1 : (xs[k].1 == ys[k].1) = true := by simp [he]
          have hn2 : (xs[k].2 == ys[k].2) = true := by simp [he]
          have HE := Lib.hid he
          have HS := Lib.hid hstep
          clear hstep he heq hc hc' H3 H3'
          generalize xs[k].1 = x at *; generalize xs[k].2 = x2 at *
          generalize ys[k].1 = y at *; generalize ys[k].2 = y2 at *
          go_wp2_with fail
          go_quiet (fail)
          go_wp2
          go_roundw
          case rel => exact ⟨k + 1, by omega, by go_num, HS.out, by first | exact bn hbw _ | exact hbw⟩
          case measure => simp [intOf]; omega
        · have hno : decide (xs = ys) = false := decide_eq_false (fun e => he (by subst e; rfl))
          by_cases hf : xs[k].1 = ys[k].1
          · have hf2 : ¬xs[k].2 = ys[k].2 := fun h => he (Prod.ext hf h)
            have hn1 : (xs[k].1 == ys[k].1) = true := by simp [hf]
            have hn2 : (xs[k].2 == ys[k].2) = false := by simp [hf2]
            have HN := Lib.hid hno
            clear hno he hf hf2 heq hc hc' H3 H3'
            generalize xs[k].1 = x at *; generalize xs[k].2 = x2 at *
            generalize ys[k].1 = y at *; generalize ys[k].2 = y2 at *
            go_wp2_with fail
            go_quiet (fail)
            go_wp2
            go_ret
            exact ⟨by rw [HN.out]; rfl, by first | exact bn hbw _ | exact hbw⟩
          · have hn1 : (xs[k].1 == ys[k].1) = false := by simp [hf]
            have HN := Lib.hid hno
            clear hno he hf heq hc hc' H3 H3'
            generalize xs[k].1 = x at *; generalize xs[k].2 = x2 at *
            generalize ys[k].1 = y at *; generalize ys[k].2 = y2 at *
            go_wp2_with fail
            go_quiet (fail)
            go_wp2
            go_ret
            exact ⟨by rw [HN.out]; rfl, by first | exact bn hbw _ | exact hbw⟩
      · have hall : decide (xs = ys) = true := decide_eq_true (List.ext_getElem? (fun j => by
          by_cases hj : j < k
          · exact heq j hj
          · rw [List.getElem?_eq_none (by omega), List.getElem?_eq_none (by have := HL.out; omega)]))
        have HA := Lib.hid hall
        clear hall heq H3 H3'
        go_wp2
        go_ret
        exact ⟨by rw [HA.out]; rfl, hbw⟩
  · have hno : decide (xs = ys) = false := decide_eq_false (fun e => hl (by rw [e]))
    have hne : ((xs.length : Int) != (ys.length : Int)) = true := by simp; omega
    have HN := Lib.hid hno
    clear hno hl h3 h3'
    go_enter Tryd.func38, Tryd.ntmps38
    go_wp2
    go_ret
    exact ⟨by rw [HN.out]; rfl, br _⟩
def fd (n : Int) : Bool := decide (n < -1099511627776) || decide (1099511627776 < n)
theorem isN_fd (s : Sp) : isN s ↔ fd s.1 = false ∧ fd s.2 = false := by
  unfold isN fd; simp; omega
set_option maxHeartbeats 1000000 in
theorem far_any (n : Int) (w : World) : Calls Tryd.prog 80 #[.int .i64 n] w fun e w' => e = .returned (.bool (fd n)) ∧ w' = w := by
  unfold fd
  by_cases c : n < -1099511627776
  all_goals
    go_enter Tryd.func80, Tryd.ntmps80
    go_wp2
    go_ret
    exact ⟨by simp [c]; try (intros; omega), rfl⟩
set_option maxRecDepth 100000 in
set_option maxHeartbeats 4000000 in
theorem hasDay_any (v : Value) (l : List Sp) (n : Int) (w : World) (h : RdE elS w v l) : Calls Tryd.prog 42 #[v, .int .i64 n] w (fun e w' => e = .returned (.bool (has l n)) ∧ w' = w) := by
  have hle := h.len_le
  obtain ⟨a, cap, rfl, h1, h2, h3⟩ := h
  have H3 := Lib.hid h3; clear h3
  obtain ⟨RES, hRES⟩ : ∃ RES, has l n = RES := ⟨_, rfl⟩
  rw [hRES]
  have HF : RowKit.Hid (RES = has (l.drop 0) n) := Lib.hid hRES.symm
  clear hRES
  go_enter Tryd.func42, Tryd.ntmps42
  go_wp2
  go_loopw [5] (fun i wr => ∃ k : Nat, k ≤ l.length ∧ i = .int .i64 k ∧ RES = has (l.drop k) n ∧ wr = w) (fun i _ => l.length - (intOf i).toNat)
  case atStart => exact ⟨0, Nat.zero_le _, rfl, HF.out, rfl⟩
  case round =>
    obtain ⟨k, hk, rfl, hch, rfl⟩ := hrel
    by_cases hlt : k < l.length
    · obtain ⟨g, off, rfl, hbl, hc⟩ := H3.out (by omega)
      obtain ⟨q0, q1⟩ := eS_at hc k hlt
      have d0 := q0
      have d1 := q1
      have i1 : (k : Int) < (l.length : Int) := by omega
      have i0 : (0 : Int) ≤ (k : Int) := by omega
      have hst : has (l.drop k) n = (decide (l[k].1 ≤ n) && decide (n < l[k].2) || has (l.drop (k + 1)) n) := by
        rw [List.drop_eq_getElem_cons hlt]; rfl
      rw [hst] at hch
      clear hc q0 q1 H3 hst HF
      obtain ⟨nx, hnx⟩ : ∃ nx, has (l.drop (k + 1)) n = nx := ⟨_, rfl⟩
      rw [hnx] at hch
      have HNX := Lib.hid hnx
      clear hnx
      generalize hs : l[k] = s at *
      clear hs
      obtain ⟨p, q⟩ := s
      simp only at d0 d1 hch
      by_cases c1 : p ≤ n
      · by_cases c2 : n < q
        · have hr : RES = true := by rw [hch]; simp [c1, c2]
          have HR := Lib.hid hr
          clear hr hch
          go_wp2
          go_ret
          exact ⟨by rw [HR.out]; rfl, rfl⟩
        · have hr : RES = nx := by rw [hch]; simp [c2]
          have HR := Lib.hid hr
          clear hr hch
          go_wp2
          go_roundw
          case rel => exact ⟨k + 1, by omega, by go_num, HR.out.trans HNX.out.symm, by first | rfl | trivial⟩
          case measure => simp [intOf]; omega
      · have hr : RES = nx := by rw [hch]; simp [c1]
        have HR := Lib.hid hr
        clear hr hch
        go_wp2
        go_roundw
        case rel => exact ⟨k + 1, by omega, by go_num, HR.out.trans HNX.out.symm, by first | rfl | trivial⟩
        case measure => simp [intOf]; omega
    · have hr : RES = false := by rw [hch, List.drop_eq_nil_of_le (by omega)]; rfl
      have HR := Lib.hid hr
      clear hr hch H3 HF
      go_wp2
      go_ret
      exact ⟨by rw [HR.out]; rfl, rfl⟩
set_option maxRecDepth 100000 in
set_option maxHeartbeats 4000000 in
theorem checkR_any (v : Value) (l : List Sp) (w : World) (h : RdE elS w v l) : Calls Tryd.prog 63 #[v] w (IntQ (chkS l) w) := by
  have hle := h.len_le
  obtain ⟨a, cap, rfl, h1, h2, h3⟩ := h
  have H3 := Lib.hid h3; clear h3
  by_cases c0 : 64 < l.length
  · have hF : chkS l = 2 := by unfold chkS; rw [if_pos c0]
    have HF := Lib.hid hF
    have hq : (64 : Int) < (l.length : Int) := by omega
    clear hF c0 H3
    go_enter Tryd.func63, Tryd.ntmps63
    go_wp2
    go_ret
    exact ⟨by rw [HF.out]; rfl, br _⟩
  have hq : ¬ (64 : Int) < (l.length : Int) := by omega
  have hF : chkS l = chkL (prev l 0) (l.drop 0) := by unfold chkS; rw [if_neg c0]; rfl
  have HF := Lib.hid hF
  clear hF
  have FD := Lib.hid (fun n w => far_any n w)
  go_enter Tryd.func63, Tryd.ntmps63
  go_wp2
  go_loopw [3] (fun i wr => ∃ k : Nat, k ≤ l.length ∧ i = .int .i64 k ∧ chkS l = chkL (prev l k) (l.drop k) ∧ ∃ n, wr = w.drewN n) (fun i _ => l.length - (intOf i).toNat)
  case atStart => exact ⟨0, Nat.zero_le _, rfl, HF.out, 0, rfl⟩
  case round =>
    obtain ⟨k, hk, rfl, hch, nd, hwr⟩ := hrel
    have hbw : Below w.heap.size w wr := by rw [hwr]; exact bn (br _) _
    have HBW := Lib.hid hbw
    have HWR := Lib.hid hwr
    clear hwr
    by_cases hlt : k < l.length
    · obtain ⟨g, off, rfl, hbl, hc⟩ := H3.out (by omega)
      obtain ⟨q0, q1⟩ := eS_at hc k hlt
      have d0 := (hbw.cell (p := ⟨g, off + k * 2, none⟩) hbl).trans q0
      have d1 := (hbw.cell (p := ⟨g, off + k * 2 + 1, none⟩) hbl).trans q1
      have i1 : (k : Int) < (l.length : Int) := by omega
      have i0 : (0 : Int) ≤ (k : Int) := by omega
      rw [chkL_at l k hlt] at hch
      have hpr : k = 0 ∨ ∃ h' : k - 1 < l.length, 0 < k ∧ prev l k = some l[k - 1].2 := by
        by_cases h0 : k = 0
        · exact .inl h0
        · exact .inr ⟨by omega, by omega, by unfold prev; rw [if_neg h0, List.getElem?_eq_getElem (by omega)]; rfl⟩
      have HPR := Lib.hid hpr
      have HQ := Lib.hid (fun (h' : k - 1 < l.length) => (eS_at hc (k - 1) h').2)
      have hfd := isN_fd l[k]
      clear hc q0 q1 hbw hpr H3
      obtain ⟨s, hs⟩ : ∃ s, l[k] = s := ⟨_, rfl⟩
      rw [hs] at d0 d1 hch hfd
      have HS := Lib.hid hs
      clear hs
      obtain ⟨p, q⟩ := s
      simp only at d0 d1 hch hfd
      have F1 := Lib.hid (FD.out p)
      have F2 := Lib.hid (FD.out q)
      clear FD
      by_cases c1 : isN (p, q)
      · rw [if_neg (fun h => h c1)] at hch
        obtain ⟨f1, f2⟩ := hfd.1 c1
        rw [f1] at F1
        rw [f2] at F2
        clear hfd c1 f1 f2
        by_cases c2 : q ≤ p
        · rw [if_pos c2] at hch
          have HCH := Lib.hid hch
          clear hch
          go_wp2_with (first | (go_at_call 80; (with_reducible refine (F1.out _).mono ?_); rintro en w2 ⟨rfl, rfl⟩) | (go_at_call 80; (with_reducible refine (F2.out _).mono ?_); rintro en w3 ⟨rfl, rfl⟩))
          go_quiet (fail)
          go_wp2
          go_ret
          exact ⟨by rw [HCH.out]; rfl, bn HBW.out _⟩
        rw [if_neg c2] at hch
        rcases HPR.out with rfl | ⟨hk1, hk0, hpv⟩
        · have hch2 : chkS l = chkL (prev l 1) (l.drop 1) := by
            rw [hch, if_neg (by unfold prev; simp)]
          have HCH := Lib.hid hch2
          clear hch hch2 HPR
          simp only [Nat.zero_mul, Nat.add_zero, Int.ofNat_zero, Int.natCast_zero] at d0 d1 i0 i1
          go_wp2_with (first | (go_at_call 80; (with_reducible refine (F1.out _).mono ?_); rintro en w2 ⟨rfl, rfl⟩) | (go_at_call 80; (with_reducible refine (F2.out _).mono ?_); rintro en w3 ⟨rfl, rfl⟩))
          go_quiet (fail)
          go_wp2_with fail
          go_quiet (fail)
          go_wp2
          go_roundw
          case rel => exact ⟨1, by omega, by first | rfl | go_num, HCH.out, _, by rw [HWR.out]; simp only [World.drewN_drewN]; rfl⟩
          case measure => simp [intOf]; omega
        · obtain ⟨j, rfl⟩ : ∃ j, k = j + 1 := ⟨k - 1, by omega⟩
          simp only [Nat.add_sub_cancel] at hk1 hpv
          have q1' := HQ.out hk1
          simp only [Nat.add_sub_cancel] at q1'
          rw [hpv] at hch
          simp only at hch
          have ij0 : (0 : Int) ≤ (j : Int) := by omega
          have ij1 : (j : Int) < (l.length : Int) := by omega
          have ijp : (0 : Int) < (j : Int) + 1 := by omega
          generalize l[j].2 = x at *
          have HQ1 := Lib.hid q1'
          have e0 := (HBW.out.cell (p := ⟨g, off + j * 2 + 1, none⟩) hbl).trans HQ1.out
          clear HPR hpv HQ q1'
          by_cases c3 : p ≤ x
          · rw [if_pos (decide_eq_true c3)] at hch
            have HCH := Lib.hid hch
            clear hch
            go_wp2_with (first | (go_at_call 80; (with_reducible refine (F1.out _).mono ?_); rintro en w2 ⟨rfl, rfl⟩) | (go_at_call 80; (with_reducible refine (F2.out _).mono ?_); rintro en w3 ⟨rfl, rfl⟩))
            go_quiet (fail)
            go_wp2_with fail
            go_quiet (fail)
            go_wp2
            go_ret
            exact ⟨by rw [HCH.out]; rfl, bn (bn HBW.out _) _⟩
          · rw [if_neg (by simp; omega)] at hch
            have HCH := Lib.hid hch
            clear hch
            go_wp2_with (first | (go_at_call 80; (with_reducible refine (F1.out _).mono ?_); rintro en w2 ⟨rfl, rfl⟩) | (go_at_call 80; (with_reducible refine (F2.out _).mono ?_); rintro en w3 ⟨rfl, rfl⟩))
            go_quiet (fail)
            go_wp2_with fail
            go_quiet (fail)
            go_wp2
            go_roundw
            case rel => exact ⟨j + 1 + 1, by omega, by go_num, HCH.out, _, by rw [HWR.out]; simp only [World.drewN_drewN]; rfl⟩
            case measure => simp [intOf]; omega
      · rw [if_pos c1] at hch
        have HCH := Lib.hid hch
        have hf : fd p = true ∨ (fd p = false ∧ fd q = true) := by
          cases hp : fd p with
          | true => exact .inl rfl
          | false => cases hq : fd q with
            | true => exact .inr ⟨rfl, rfl⟩
            | false => exact absurd (hfd.2 ⟨hp, hq⟩) c1
        clear hch hfd c1
        rcases hf with f1 | ⟨f1, f2⟩
        · rw [f1] at F1
          clear f1
          go_wp2_with (first | (go_at_call 80; (with_reducible refine (F1.out _).mono ?_); rintro en w2 ⟨rfl, rfl⟩) | (go_at_call 80; (with_reducible refine (F2.out _).mono ?_); rintro en w3 ⟨rfl, rfl⟩))
          go_ret
          exact ⟨by rw [HCH.out]; rfl, HBW.out⟩
        · rw [f1] at F1
          rw [f2] at F2
          clear f1 f2
          go_wp2_with (first | (go_at_call 80; (with_reducible refine (F1.out _).mono ?_); rintro en w2 ⟨rfl, rfl⟩) | (go_at_call 80; (with_reducible refine (F2.out _).mono ?_); rintro en w3 ⟨rfl, rfl⟩))
          go_ret
          exact ⟨by rw [HCH.out]; rfl, HBW.out⟩
    · have hch2 : chkS l = 0 := by rw [hch, List.drop_eq_nil_of_le (by omega)]; rfl
      have HCH := Lib.hid hch2
      clear hch hch2 H3
      go_wp2
      go_ret
      exact ⟨by rw [HCH.out]; rfl, hbw⟩
end Sn
end Go.Proofs.YtdfdjampodkpgaaDoor
end
