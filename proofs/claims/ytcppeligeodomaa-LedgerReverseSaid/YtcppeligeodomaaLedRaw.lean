/- Ledgers: balances. -/
import Derived.Test.YtcppeligeodomaaLedOwn
set_option linter.unusedVariables false
namespace Go.Proofs.Ytcppeligeodomaa
open Go.RowKit
namespace Ld
open Pn
/-- lines and postings whose sums run over nowhere -/
structure Fine (ps : List Po) : Prop where
  len : ps.length ≤ 1000
  ls : ∀ p ∈ ps, p.ls.length ≤ 6 ∧ ∀ l ∈ p.ls, isA l.2
theorem one_le (a : Int) (ls : List Ln) (h : ∀ l ∈ ls, isA l.2) : -(1099511627776 * (ls.length : Int)) ≤ one a ls ∧ one a ls ≤ 1099511627776 * (ls.length : Int) := by
  induction ls with
  | nil => simp [one]
  | cons x ls ih =>
    have h1 := ih (fun l hl => h l (by simp [hl]))
    have h2 := h x (by simp)
    unfold isA at h2
    simp only [one, List.length_cons]
    split <;> omega
theorem bal_le (a : Int) (ps : List Po) (h : ∀ p ∈ ps, p.ls.length ≤ 6 ∧ ∀ l ∈ p.ls, isA l.2) : -(6597069766656 * (ps.length : Int)) ≤ bal a (pgs ps) ∧ bal a (pgs ps) ≤ 6597069766656 * (ps.length : Int) := by
  induction ps with
  | nil => simp [bal]
  | cons x ps ih =>
    have h1 := ih (fun l hl => h l (by simp [hl]))
    obtain ⟨h2, h3⟩ := h x (by simp)
    have h4 := one_le a x.ls h3
    have e : bal a (pgs (x :: ps)) = one a x.ls + bal a (pgs ps) := rfl
    rw [e]
    simp only [List.length_cons]
    omega
theorem Fine.of_ok {ps : List Po} (h : chk (pgs ps) = 0) : Fine ps := by
  obtain ⟨h1, h2, _⟩ := (chk_ok _).1 h
  refine ⟨by simp at h1; omega, fun p hp => ?_⟩
  have h3 := h2 p.pg (List.mem_map.2 ⟨p, hp, rfl⟩)
  exact ⟨h3.six, fun l hl => (h3.ln l hl).2.2.1⟩
theorem bal_take (a : Int) (ps : List Po) (k : Nat) (h : k < ps.length) : bal a (pgs (ps.take (k + 1))) = bal a (pgs (ps.take k)) + one a ps[k].ls := by
  rw [List.take_succ_eq_append_getElem h]
  show bal a ((ps.take k ++ [ps[k]]).map Po.pg) = _
  rw [List.map_append, bal_app]
  simp [bal]
theorem one_take (a : Int) (ls : List Ln) (k : Nat) (h : k < ls.length) : one a (ls.take (k + 1)) = one a (ls.take k) + if ls[k].1 = a then ls[k].2 else 0 := by
  rw [List.take_succ_eq_append_getElem h, one_app]
  simp [one]
set_option maxHeartbeats 4000000 in
theorem raw_any (v : Value) (ps : List Po) (ac : Int) (w : World) (h : RdL w v ps) (hf : Fine ps) : Calls Try.prog 47 #[v, .int .i64 ac] w (IntQ (bal ac (pgs ps)) w) := by
  obtain ⟨hr, hls⟩ := h
  obtain ⟨a, cap, rfl, h1, h2, h3⟩ := hr
  have H3 := Lib.hid h3; clear h3
  have HLS := Lib.hid hls; clear hls
  have HF := Lib.hid hf.ls
  have hlen := hf.len
  clear hf
  obtain ⟨RES, hRES⟩ : ∃ RES : Int, bal ac (pgs ps) = RES := ⟨_, rfl⟩
  rw [hRES]
  have HRES := Lib.hid hRES; clear hRES
  go_enter Try.func47, Try.ntmps47
  go_wp2
  go_loopw [12, 5] (fun i n wr => ∃ k : Nat, k ≤ ps.length ∧ i = .int .i64 k ∧ n = .int .i64 (bal ac (pgs (ps.take k))) ∧ Below w.heap.size w wr) (fun i _ _ => ps.length - (intOf i).toNat)
  case atStart => exact ⟨0, Nat.zero_le _, rfl, rfl, br _⟩
  case round =>
    obtain ⟨k, hk, rfl, rfl, hbw⟩ := hrel
    by_cases hlt : k < ps.length
    · obtain ⟨g, off, rfl, hbl, hc⟩ := H3.out (by omega)
      obtain ⟨q0, q1⟩ := eP_at hc k hlt
      have d0 := (hbw.cell (p := ⟨g, off + k * 2, none⟩) hbl).trans q0
      have d1 := (hbw.cell (p := ⟨g, off + k * 2 + 1, none⟩) hbl).trans q1
      have i1 : (k : Int) < (ps.length : Int) := by omega
      have i0 : (0 : Int) ≤ (k : Int) := by omega
      have HBW := Lib.hid hbw
      obtain ⟨f1, f2⟩ := HF.out _ (List.getElem_mem hlt)
      have F2 := Lib.hid f2
      have hb1 := bal_le ac (ps.take k) (fun p hp => HF.out p (List.mem_of_mem_take hp))
      have hkl : (ps.take k).length = k := by simp; omega
      rw [hkl] at hb1
      have HN := Lib.hid (bal_take ac ps k hlt)
      have hrd := (HLS.out _ (List.getElem_mem hlt)).below hbw
      have HRD := Lib.hid (hrd.below ((br wr).alloc (Nat.le_refl _) (.cells #[.int .i64 ps[k].id, ps[k].v] 42)))
      clear hc q0 q1 hbw f2 hkl H3 HLS HF hrd
      unfold RdN Po.v at HRD
      unfold Po.v at d1
      generalize hbk : bal ac (pgs (ps.take k)) = B at *
      generalize ps[k].id = t at *
      generalize ps[k].ls = ls at *
      generalize ps[k].a = pa at *; generalize ps[k].cap = pc at *
      obtain ⟨a', cap', e, g1, g2, g3⟩ := HRD.out
      injection e with e1 e2 e3
      subst e1 e3
      clear e2 HRD
      have G3 := Lib.hid g3; clear g3 hbk
      go_wp2_with fail
      go_loopw [19, 5] (fun i n wy => ∃ j : Nat, j ≤ ls.length ∧ i = .int .i64 j ∧ n = .int .i64 (B + one ac (ls.take j)) ∧ Below (wr.alloc (.cells #[.int .i64 t, .slice pa ls.length pc] 42)).heap.size (wr.alloc (.cells #[.int .i64 t, .slice pa ls.length pc] 42)) wy) (fun i _ _ => ls.length - (intOf i).toNat)
      case atStart => exact ⟨0, Nat.zero_le _, rfl, by simp [one], br _⟩
      case round =>
        obtain ⟨j, hj, rfl, rfl, hby⟩ := hrel
        by_cases hjt : j < ls.length
        · obtain ⟨g', off', rfl, hbl', hc'⟩ := G3.out (by omega)
          obtain ⟨q0, q1⟩ := eN_at hc' j hjt
          have e0 := (hby.cell (p := ⟨g', off' + j * 2, none⟩) hbl').trans q0
          have e1 := (hby.cell (p := ⟨g', off' + j * 2 + 1, none⟩) hbl').trans q1
          have i2 : (j : Int) < (ls.length : Int) := by omega
          have i3 : (0 : Int) ≤ (j : Int) := by omega
          have HT := Lib.hid (one_take ac ls j hjt)
          have ho := one_le ac (ls.take j) (fun l hl => F2.out l (List.mem_of_mem_take hl))
          have hlk : (ls.take j).length = j := by simp; omega
          rw [hlk] at ho
          have hA := F2.out _ (List.getElem_mem hjt)
          unfold isA at hA
          have HBY := Lib.hid hby
          clear hc' q0 q1 hlk hby G3 F2 d0 d1
          generalize hot : one ac (ls.take j) = O at *
          have HOT := Lib.hid hot; clear hot
          generalize ls[j].1 = x1 at *; generalize ls[j].2 = x2 at *
          by_cases hx : x1 = ac
          · rw [if_pos hx] at HT
            subst hx
            have hw : IntKind.i64.wrap (B + O + x2) = B + O + x2 := IntWalk.i64_in _ (by omega)
            have HE : RowKit.Hid (B + O + x2 = B + one x1 (ls.take (j + 1))) := Lib.hid (by rw [HT.out]; omega)
            clear hA ho hb1
            go_wp2
            go_roundw
            case rel => exact ⟨j + 1, by omega, by go_num, by rw [← HE.out], by first | exact HBY.out | exact HBY.out.alloc HBY.out.size _⟩
            case measure => simp [intOf]; omega
          · rw [if_neg hx] at HT
            have hxb : (x1 == ac) = false := by simp [hx]
            have HE : RowKit.Hid (O = one ac (ls.take (j + 1))) := Lib.hid (by rw [HT.out]; omega)
            clear hA ho hb1
            go_wp2
            go_roundw
            case rel => exact ⟨j + 1, by omega, by go_num, by rw [← HE.out], by first | exact HBY.out | exact HBY.out.alloc HBY.out.size _⟩
            case measure => simp [intOf]; omega
        · have e : j = ls.length := by omega
          subst e
          rw [List.take_length] at *
          have HE : RowKit.Hid (B + one ac ls = bal ac (pgs (ps.take (k + 1)))) := Lib.hid HN.out.symm
          have HB2 := Lib.hid ((HBW.out.alloc HBW.out.size (.cells #[.int .i64 t, .slice pa ls.length pc] 42)).trans (hby.mono (by have := HBW.out.size; simp; omega)))
          clear G3 F2 d0 d1 hb1 hby
          generalize one ac ls = O at *
          go_wp2
          go_roundw
          case rel => exact ⟨k + 1, by omega, by go_num, by rw [← HE.out], HB2.out⟩
          case measure => simp [intOf]; omega
    · have e : k = ps.length := by omega
      subst e
      rw [List.take_length, HRES.out]
      clear H3 HLS HF
      go_wp2
      go_ret
      exact ⟨rfl, hbw⟩
set_option maxHeartbeats 2000000 in
theorem balance_any (v : Value) (ps : List Po) (ac : Int) (w : World) (h : RdL w v ps) : Calls Try.prog 27 #[v, .int .i64 ac] w fun e w' => e = .returned (.tuple #[.int .i64 (balance (pgs ps) ac).1, .int .i64 (balance (pgs ps) ac).2]) ∧ Below w.heap.size w w' := by
  have C1 := Lib.hid (check_any v ps w h)
  unfold balance
  by_cases hc : chk (pgs ps) ≠ 0
  · rw [if_pos hc]
    have hn : (chk (pgs ps) != 0) = true := by simpa using hc
    clear hc
    generalize chk (pgs ps) = ec at *
    go_enter Try.func27, Try.ntmps27
    go_wp2_with fail
    refine C1.out.mono ?_
    rintro en w1 ⟨rfl, hb1⟩
    go_wp2
    go_ret2
    exact ⟨rfl, hb1⟩
  · have hc0 : chk (pgs ps) = 0 := by simpa using hc
    rw [if_neg hc]
    have C2 := Lib.hid (fun w' (hb : Below w.heap.size w w') => raw_any v ps ac w' (h.next hb) (Fine.of_ok hc0))
    rw [hc0] at C1
    clear hc hc0 h
    generalize bal ac (pgs ps) = B at *
    by_cases ha : ac < 1 ∨ 5 < ac
    · rw [if_pos ha]
      rcases (show ac < 1 ∨ (1 ≤ ac ∧ 5 < ac) by omega) with a1 | ⟨a1, a2⟩
      all_goals
        clear ha
        go_enter Try.func27, Try.ntmps27
        go_wp2_with fail
        refine C1.out.mono ?_
        rintro en w1 ⟨rfl, hb1⟩
        go_wp2
        go_ret2
        exact ⟨rfl, hb1⟩
    · rw [if_neg ha]
      have a1 : 1 ≤ ac := by omega
      have a2 : ac ≤ 5 := by omega
      clear ha
      go_enter Try.func27, Try.ntmps27
      go_wp2_with fail
      refine C1.out.mono ?_
      rintro en w1 ⟨rfl, hb1⟩
      go_wp2_with fail
      refine (C2.out _ hb1).mono ?_
      rintro en w2 ⟨rfl, hb2⟩
      go_wp2
      go_ret2
      exact ⟨rfl, bt hb1 hb2⟩
end Ld
end Go.Proofs.Ytcppeligeodomaa
