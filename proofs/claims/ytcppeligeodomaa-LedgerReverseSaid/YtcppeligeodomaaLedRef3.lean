/- Ledgers: the document's balances; are two ledgers one? -/
import Derived.Test.YtcppeligeodomaaLedRef2
set_option linter.unusedVariables false
namespace Go.Proofs.Ytcppeligeodomaa
open Go.RowKit
namespace Ld
open Pn
theorem bal_drop (a : Int) (ps : List Po) (k : Nat) (h : k < ps.length) : bal a (pgs (ps.drop k)) = one a ps[k].ls + bal a (pgs (ps.drop (k + 1))) := by
  rw [List.drop_eq_getElem_cons h]; rfl
set_option maxHeartbeats 4000000 in
theorem balR_any (v : Value) (ps : List Po) (ac : Int) (w : World) (h : RdL w v ps) (hf : Fine ps) : Calls Try.prog 32 #[v, .int .i64 ac] w (IntQ (bal ac (pgs ps)) w) := by
  obtain ⟨hr, hls⟩ := h
  obtain ⟨a, cap, rfl, h1, h2, h3⟩ := hr
  have H3 := Lib.hid h3; clear h3
  have HLS := Lib.hid hls; clear hls
  have HF := Lib.hid hf.ls
  have hlen := hf.len
  clear hf
  obtain ⟨RES, hRES⟩ : ∃ RES : Int, bal ac (pgs ps) = RES := ⟨_, rfl⟩
  rw [hRES]
  have HRES := Lib.hid hRES; clear hRES
  have hw1 : IntKind.i64.wrap ((ps.length : Int) - 1) = (ps.length : Int) - 1 := IntWalk.i64_in _ (by omega)
  go_enter Try.func32, Try.ntmps32
  go_wp2
  go_loopw [5, 6] (fun n i wr => ∃ (k : Nat) (q : Int), k ≤ ps.length ∧ q = (k : Int) - 1 ∧ i = .int .i64 q ∧ n = .int .i64 (bal ac (pgs (ps.drop k))) ∧ Below w.heap.size w wr) (fun _ i _ => ((intOf i) + 1).toNat)
  case atStart => exact ⟨ps.length, _, Nat.le_refl _, rfl, rfl, by rw [List.drop_length]; rfl, br _⟩
  case round =>
    obtain ⟨k, q, hk, hq, rfl, rfl, hbw⟩ := hrel
    rcases k with _ | k
    · have e : q = -1 := by omega
      subst e
      rw [List.drop_zero, HRES.out]
      clear H3 HLS HF hq hw1
      go_wp2
      go_ret
      exact ⟨rfl, hbw⟩
    · have hlt : k < ps.length := by omega
      have e : q = (k : Int) := by omega
      subst e
      clear hq
      obtain ⟨g, off, rfl, hbl, hc⟩ := H3.out (by omega)
      obtain ⟨q0, q1⟩ := eP_at hc k hlt
      have D1 := Lib.hid q1
      have i1 : (k : Int) < (ps.length : Int) := by omega
      have i0 : (0 : Int) ≤ (k : Int) := by omega
      have HBW := Lib.hid hbw
      obtain ⟨f1, f2⟩ := HF.out _ (List.getElem_mem hlt)
      have F2 := Lib.hid f2
      have hb1 := bal_le ac (ps.drop (k + 1)) (fun p hp => HF.out p (List.mem_of_mem_drop hp))
      have hkl : (ps.drop (k + 1)).length ≤ 1000 := by simp; omega
      have HN := Lib.hid (bal_drop ac ps k hlt)
      have HRD := Lib.hid (HLS.out _ (List.getElem_mem hlt))
      have hb2 : -(6597069766656000 : Int) ≤ bal ac (pgs (ps.drop (k + 1))) ∧ bal ac (pgs (ps.drop (k + 1))) ≤ 6597069766656000 := by omega
      clear hc q0 q1 hbw f2 hkl H3 HLS HF hb1
      unfold RdN Po.v at HRD
      unfold Po.v at D1
      generalize hbk : bal ac (pgs (ps.drop (k + 1))) = B at *
      generalize ps[k].id = t at *
      generalize ps[k].ls = ls at *
      generalize ps[k].a = pa at *; generalize ps[k].cap = pc at *
      obtain ⟨a', cap', e, g1, g2, g3⟩ := HRD.out
      injection e with e1 e2 e3
      subst e1 e3
      clear e2 HRD
      have G3 := Lib.hid g3; clear g3 hbk
      go_wp2_with fail
      go_loopw [5, 7] (fun n i wy => ∃ j : Nat, j ≤ ls.length ∧ i = .int .i64 j ∧ n = .int .i64 (B + one ac (ls.take j)) ∧ Below w.heap.size w wy) (fun _ i _ => ls.length - (intOf i).toNat)
      case atStart => exact ⟨0, Nat.zero_le _, rfl, by simp [one], HBW.out⟩
      case round =>
        obtain ⟨j, hj, rfl, rfl, hby⟩ := hrel
        have d1 := kp hby D1.out
        have HBY := Lib.hid hby
        by_cases hjt : j < ls.length
        · obtain ⟨g', off', rfl, hbl', hc'⟩ := G3.out (by omega)
          obtain ⟨q0, q1⟩ := eN_at hc' j hjt
          have e0 := (hby.cell (p := ⟨g', off' + j * 2, none⟩) hbl').trans q0
          have e1 := (hby.cell (p := ⟨g', off' + j * 2 + 1, none⟩) hbl').trans q1
          have i2 : (j : Int) < (ls.length : Int) := by omega
          have i3 : (0 : Int) ≤ (j : Int) := by omega
          have HT := Lib.hid (one_take ac ls j hjt)
          have ho := one_le ac (ls.take j) (fun l hl => F2.out l (List.mem_of_mem_take hl))
          have hlk : (ls.take j).length = j := by simp; omega
          rw [hlk] at ho
          have hA := F2.out _ (List.getElem_mem hjt)
          unfold isA at hA
          clear hc' q0 q1 hlk hby G3 F2
          generalize hot : one ac (ls.take j) = O at *
          have HOT := Lib.hid hot; clear hot
          generalize ls[j].1 = x1 at *; generalize ls[j].2 = x2 at *
          by_cases hx : x1 = ac
          · rw [if_pos hx] at HT
            subst hx
            have hw : IntKind.i64.wrap (B + O + x2) = B + O + x2 := IntWalk.i64_in _ (by omega)
            have HE : RowKit.Hid (B + O + x2 = B + one x1 (ls.take (j + 1))) := Lib.hid (by rw [HT.out]; omega)
            clear hA ho hb2
            go_wp2
            go_roundw
            case rel => exact ⟨j + 1, by omega, by go_num, by rw [← HE.out], HBY.out⟩
            case measure => simp [intOf]; omega
          · rw [if_neg hx] at HT
            have hxb : (x1 == ac) = false := by simp [hx]
            have HE : RowKit.Hid (O = one ac (ls.take (j + 1))) := Lib.hid (by rw [HT.out]; omega)
            clear hA ho hb2
            go_wp2
            go_roundw
            case rel => exact ⟨j + 1, by omega, by go_num, by rw [← HE.out], HBY.out⟩
            case measure => simp [intOf]; omega
        · have e : j = ls.length := by omega
          subst e
          have hnn : ¬ ((ls.length : Int) < (ls.length : Int)) := by omega
          rw [List.take_length] at *
          have HE : RowKit.Hid (B + one ac ls = bal ac (pgs (ps.drop k))) := Lib.hid (by rw [HN.out]; omega)
          have hw : IntKind.i64.wrap ((k : Int) - 1) = (k : Int) - 1 := IntWalk.i64_in _ (by omega)
          clear G3 F2 hb2 hby
          generalize one ac ls = O at *
          go_wp2
          go_roundw
          case rel => exact ⟨k, _, by omega, rfl, rfl, by rw [← HE.out], HBY.out⟩
          case measure => first | (simp [intOf]; done) | (simp [intOf]; omega)
set_option maxHeartbeats 4000000 in
theorem same_any (v u : Value) (xs ys : List Po) (w : World) (h : RdL w v xs) (h' : RdL w u ys) : Calls Try.prog 35 #[v, u] w (BoolQ (decide (pgs xs = pgs ys)) w) := by
  have hle := h.rd.len_le
  have hle' := h'.rd.len_le
  have HX := Lib.hid h.ln; have HY := Lib.hid h'.ln
  obtain ⟨a, cap, rfl, h1, h2, h3⟩ := h.rd
  obtain ⟨a', cap', rfl, h1', h2', h3'⟩ := h'.rd
  clear h h'
  by_cases hl : xs.length = ys.length
  · have H3 := Lib.hid h3; have H3' := Lib.hid h3'; clear h3 h3'
    have hne : ((xs.length : Int) != (ys.length : Int)) = false := by simp [hl]
    have HL := Lib.hid hl; clear hl
    go_enter Try.func35, Try.ntmps35
    go_wp2
    go_loopw [5] (fun i wr => ∃ k : Nat, k ≤ xs.length ∧ i = .int .i64 k ∧ (∀ j, j < k → (pgs xs)[j]? = (pgs ys)[j]?) ∧ Below w.heap.size w wr) (fun i _ => xs.length - (intOf i).toNat)
    case atStart => exact ⟨0, Nat.zero_le _, rfl, fun j hj => by omega, br w⟩
    case round =>
      obtain ⟨k, hk, rfl, heq, hbw⟩ := hrel
      by_cases hlt : k < xs.length
      · have hlt' : k < ys.length := by have := HL.out; omega
        obtain ⟨b, off, rfl, hbl, hc⟩ := H3.out (by omega)
        obtain ⟨b', off', rfl, hbl', hc'⟩ := H3'.out (by omega)
        obtain ⟨q0, q1⟩ := eP_at hc k hlt
        obtain ⟨q2, q3⟩ := eP_at hc' k hlt'
        have c0 := (hbw.cell (p := ⟨b, off + k * 2, none⟩) hbl).trans q0
        have c1 := (hbw.cell (p := ⟨b, off + k * 2 + 1, none⟩) hbl).trans q1
        have c2 := (hbw.cell (p := ⟨b', off' + k * 2, none⟩) hbl').trans q2
        have c3 := (hbw.cell (p := ⟨b', off' + k * 2 + 1, none⟩) hbl').trans q3
        clear q0 q1 q2 q3
        have i1 : (k : Int) < (xs.length : Int) := by omega
        have i2 : (k : Int) < (ys.length : Int) := by omega
        have i0 : (0 : Int) ≤ (k : Int) := by omega
        have HBW := Lib.hid hbw
        have gx : (pgs xs)[k]? = some xs[k].pg := by rw [List.getElem?_map, List.getElem?_eq_getElem hlt]; rfl
        have gy : (pgs ys)[k]? = some ys[k].pg := by rw [List.getElem?_map, List.getElem?_eq_getElem hlt']; rfl
        have hno0 : ¬ xs[k].pg = ys[k].pg → decide (pgs xs = pgs ys) = false := fun hn => decide_eq_false (fun e => hn (by rw [e, gy] at gx; injection gx with e; exact e.symm))
        by_cases he : xs[k].id = ys[k].id
        · have hbt : (xs[k].id == ys[k].id) = true := by simp [he]
          have hbt2 : (xs[k].id != ys[k].id) = false := by simp [he]
          have CS := Lib.hid (fun w1 (hw1 : Below w.heap.size w w1) => lines_any xs[k].v ys[k].v xs[k].ls ys[k].ls w1 ((HX.out _ (List.getElem_mem hlt)).below hw1) ((HY.out _ (List.getElem_mem hlt')).below hw1))
          have hwd : Below w.heap.size w wr.drew := bn hbw 1
          by_cases hls : xs[k].ls = ys[k].ls
          · rw [decide_eq_true hls] at CS
            have hstep : ∀ j, j < k + 1 → (pgs xs)[j]? = (pgs ys)[j]? := fun j hj => by
              by_cases e : j = k
              · subst e; rw [gx, gy]; unfold Po.pg; rw [he, hls]
              · exact heq j (by omega)
            have HS := Lib.hid hstep
            clear hstep heq hc hc' H3 H3' gx gy hno0 hls he hbw
            unfold Po.v at c1 c3 CS
            generalize xs[k].id = x at *; generalize xs[k].a = xa at *; generalize xs[k].ls.length = xl at *; generalize xs[k].cap = xc at *
            generalize ys[k].id = y at *; generalize ys[k].a = ya at *; generalize ys[k].ls.length = yl at *; generalize ys[k].cap = yc at *
            go_wp2_with fail
            go_region_held3 (fun w' => w'.cell? ⟨b, off + k * 2, none⟩ = some (.int .i64 x) ∧ w'.cell? ⟨b, off + k * 2 + 1, none⟩ = some (.slice xa xl xc) ∧ w'.cell? ⟨b', off' + k * 2, none⟩ = some (.int .i64 y) ∧ w'.cell? ⟨b', off' + k * 2 + 1, none⟩ = some (.slice ya yl yc))
              (first | (exact ⟨kp b4 c0, kp b4 c1, kp b4 c2, kp b4 c3⟩) | (go_split_ands; exact ⟨kp b4 c0, kp b4 c1, kp b4 c2, kp b4 c3⟩) | go_keep)
              (first
                | (go_at_call 49; (with_reducible refine (CS.out _ hwd).mono ?_); rintro en w4 ⟨rfl, hb4⟩; have b4 : Below wr.heap.size wr w4 := bd (br wr) hb4)
                | fail)
            have HB4 := Lib.hid (bt HBW.out b4)
            go_wp2
            go_roundw
            case rel => exact ⟨k + 1, by omega, by go_num, HS.out, HB4.out⟩
            case measure => simp [intOf]; omega
          · rw [decide_eq_false hls] at CS
            have HN := Lib.hid (hno0 (fun e => hls (congrArg Prod.snd e)))
            clear heq hc hc' H3 H3' gx gy hno0 hls he hbw
            unfold Po.v at c1 c3 CS
            generalize xs[k].id = x at *; generalize xs[k].a = xa at *; generalize xs[k].ls.length = xl at *; generalize xs[k].cap = xc at *
            generalize ys[k].id = y at *; generalize ys[k].a = ya at *; generalize ys[k].ls.length = yl at *; generalize ys[k].cap = yc at *
            go_wp2_with fail
            go_region_held3 (fun w' => w'.cell? ⟨b, off + k * 2, none⟩ = some (.int .i64 x) ∧ w'.cell? ⟨b, off + k * 2 + 1, none⟩ = some (.slice xa xl xc) ∧ w'.cell? ⟨b', off' + k * 2, none⟩ = some (.int .i64 y) ∧ w'.cell? ⟨b', off' + k * 2 + 1, none⟩ = some (.slice ya yl yc))
              (first | (exact ⟨kp b4 c0, kp b4 c1, kp b4 c2, kp b4 c3⟩) | (go_split_ands; exact ⟨kp b4 c0, kp b4 c1, kp b4 c2, kp b4 c3⟩) | go_keep)
              (first
                | (go_at_call 49; (with_reducible refine (CS.out _ hwd).mono ?_); rintro en w4 ⟨rfl, hb4⟩; have b4 : Below wr.heap.size wr w4 := bd (br wr) hb4)
                | fail)
            have HB4 := Lib.hid (bt HBW.out b4)
            go_wp2
            go_ret
            exact ⟨by rw [HN.out]; rfl, HB4.out⟩
        · have hbt : (xs[k].id == ys[k].id) = false := by simp [he]
          have hbt2 : (xs[k].id != ys[k].id) = true := by simp [he]
          have HN := Lib.hid (hno0 (fun e => he (congrArg Prod.fst e)))
          clear hno0 he gx gy heq hc hc' H3 H3' hbw
          unfold Po.v at c1 c3
          generalize xs[k].id = x at *; generalize xs[k].a = xa at *; generalize xs[k].ls.length = xl at *; generalize xs[k].cap = xc at *
          generalize ys[k].id = y at *; generalize ys[k].a = ya at *; generalize ys[k].ls.length = yl at *; generalize ys[k].cap = yc at *
          go_wp2_with fail
          go_quiet (fail)
          go_wp2
          go_ret
          exact ⟨by rw [HN.out]; rfl, by first | exact bn HBW.out _ | exact HBW.out⟩
      · have hall : decide (pgs xs = pgs ys) = true := decide_eq_true (List.ext_getElem? (fun j => by
          by_cases hj : j < k
          · exact heq j hj
          · rw [List.getElem?_eq_none (by simp; omega), List.getElem?_eq_none (by have := HL.out; simp; omega)]))
        have HA := Lib.hid hall
        clear hall heq H3 H3'
        go_wp2
        go_ret
        exact ⟨by rw [HA.out]; rfl, hbw⟩
  · have hno : decide (pgs xs = pgs ys) = false := decide_eq_false (fun e => hl (by have := congrArg List.length e; simpa using this))
    have hne : ((xs.length : Int) != (ys.length : Int)) = true := by simp; omega
    have HN := Lib.hid hno
    clear hno hl h3 h3'
    go_enter Try.func35, Try.ntmps35
    go_wp2
    go_ret
    exact ⟨by rw [HN.out]; rfl, br _⟩
end Ld
end Go.Proofs.Ytcppeligeodomaa
