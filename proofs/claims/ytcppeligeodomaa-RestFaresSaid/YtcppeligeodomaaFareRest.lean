/- Fares: what is handed in stays, and no answer shares anything. -/
import Derived.Test.YtcppeligeodomaaFareLaws
set_option linter.unusedVariables false
namespace Go.Proofs.Ytcppeligeodomaa
open Go.RowKit
theorem qe {P : Program} {f : FuncId} {args : Array Value} {w : World} {a n : Nat} {v : Value}
    (h : Calls P f args (w.drewN (a + n)) fun e w' => e = .returned v ∧ ∃ m, w' = (w.drewN (a + n)).drewN m) : Calls P f args (w.drewN (a + n)) fun e w'' => e = .returned v ∧ ∃ m, w'' = w.drewN (a + m) :=
  h.mono fun _ _ ⟨he, m, hm⟩ => ⟨he, n + m, by rw [hm, World.drewN_drewN, Nat.add_assoc]⟩
namespace Fa
/-- rows of the table are changed, but for those behind one -/
structure Chg (ps ps' : List (Nat × List Int)) (i : Nat) : Prop where
  len : ps'.length = ps.length
  fst : ∀ (j : Nat) (h : j < ps.length) (h' : j < ps'.length), ps'[j].1 = ps[j].1
  snd : ∀ (j : Nat) (h : j < ps.length) (h' : j < ps'.length), ps'[j].2.length = ps[j].2.length
  old : ∀ (j : Nat) (h : j < ps.length) (h' : j < ps'.length), i ≤ j → ps'[j].2 = ps[j].2
theorem Chg.refl (ps : List (Nat × List Int)) (i : Nat) : Chg ps ps i := ⟨rfl, fun _ _ _ => rfl, fun _ _ _ => rfl, fun _ _ _ _ => rfl⟩
theorem Chg.more {ps ps' : List (Nat × List Int)} {i : Nat} (h : Chg ps ps' i) : Chg ps ps' (i + 1) := ⟨h.len, h.fst, h.snd, fun j a b c => h.old j a b (by omega)⟩
theorem Chg.set {ps ps' : List (Nat × List Int)} {i : Nat} (h : Chg ps ps' (i + 1)) (hi : i < ps'.length) (k : Nat) (v : Int) : Chg ps (ps'.set i (ps'[i].1, ps'[i].2.set k v)) (i + 1) := by
  refine ⟨by rw [List.length_set]; exact h.len, fun j a b => ?_, fun j a b => ?_, fun j a b c => ?_⟩
  · rw [List.getElem_set]
    split
    · rename_i e; subst e; exact h.fst i a hi
    · exact h.fst j a (by simpa using b)
  · rw [List.getElem_set]
    split
    · rename_i e; subst e; simp only [List.length_set]; exact h.snd i a hi
    · exact h.snd j a (by simpa using b)
  · rw [List.getElem_set, if_neg (by omega)]
    exact h.old j a (by simpa using b) c
theorem Chg.blk {ps ps' : List (Nat × List Int)} {i : Nat} (h : Chg ps ps' i) (go : Nat) : blks go ps' = blks go ps := by
  unfold blks
  congr 1
  apply List.ext_getElem
  · simp [h.len]
  · intro j a b
    have ha : j < ps'.length := by simpa using a
    have hb : j < ps.length := by simpa using b
    simp only [List.getElem_map]
    exact h.fst j hb ha
set_option maxHeartbeats 1000000 in
theorem sameD_any (v u : Value) (xs ys : List Int) (w : World) (h : Rd 1 eI w v xs) (h' : Rd 1 eI w u ys) : Calls Try.prog 25 #[v, u] w (fun e w' => e = .returned (.bool (decide (xs = ys))) ∧ ∃ m, w' = w.drewN m) := by
  have hle := h.len_le
  have hle' := h'.len_le
  obtain ⟨a, cap, rfl, h1, h2, h3⟩ := h
  obtain ⟨a', cap', rfl, h1', h2', h3'⟩ := h'
  by_cases hl : xs.length = ys.length
  · have H3 := Lib.hid h3; have H3' := Lib.hid h3'; clear h3 h3'
    have hne : ((xs.length : Int) != (ys.length : Int)) = false := by simp [hl]
    have HL := Lib.hid hl; clear hl
    go_enter Try.func25, Try.ntmps25
    go_wp2
    go_loopw [5] (fun i wr => ∃ k : Nat, k ≤ xs.length ∧ i = .int .i64 k ∧ (∀ j, j < k → xs[j]? = ys[j]?) ∧ ∃ j, wr = w.drewN j) (fun i _ => xs.length - (intOf i).toNat)
    case atStart => exact ⟨0, Nat.zero_le _, rfl, fun j hj => by omega, 0, rfl⟩
    case round =>
      obtain ⟨k, hk, rfl, heq, hj⟩ := hrel
      have hbw : Below w.heap.size w wr := by obtain ⟨j, e⟩ := hj; rw [e]; exact bn (br w) j
      by_cases hlt : k < xs.length
      · have hlt' : k < ys.length := by have := HL.out; omega
        obtain ⟨b, off, rfl, hbl, hc⟩ := H3.out (by omega)
        obtain ⟨b', off', rfl, hbl', hc'⟩ := H3'.out (by omega)
        have c0 := (hbw.cell (p := ⟨b, off + k, none⟩) hbl).trans (eI_at hc k hlt)
        have c1 := (hbw.cell (p := ⟨b', off' + k, none⟩) hbl').trans (eI_at hc' k hlt')
        have i1 : (k : Int) < (xs.length : Int) := by omega
        have i2 : (k : Int) < (ys.length : Int) := by omega
        have i0 : (0 : Int) ≤ (k : Int) := by omega
        by_cases he : xs[k] = ys[k]
        · have hstep : ∀ j, j < k + 1 → xs[j]? = ys[j]? := fun j hj => by
            by_cases e : j = k
            · subst e; rw [List.getElem?_eq_getElem hlt, List.getElem?_eq_getElem hlt', he]
            · exact heq j (by omega)
          have hn : (xs[k] != ys[k]) = false := by simp [he]
          have HS := Lib.hid hstep
          clear hstep he heq hc hc' H3 H3'
          generalize xs[k] = x at *
          generalize ys[k] = y at *
          go_wp2_with fail
          go_quiet (fail)
          go_wp2
          go_roundw
          case rel => exact ⟨k + 1, by omega, by go_num, HS.out, by obtain ⟨j, e⟩ := hj; exact ⟨j + nq, by rw [e, World.drewN_drewN]⟩⟩
          case measure => simp [intOf]; omega
        · have hno : decide (xs = ys) = false := decide_eq_false (fun e => he (by subst e; rfl))
          have hn : (xs[k] != ys[k]) = true := by simp [he]
          have HN := Lib.hid hno
          clear hno he heq hc hc' H3 H3'
          generalize xs[k] = x at *
          generalize ys[k] = y at *
          go_wp2_with fail
          go_quiet (fail)
          go_wp2
          go_ret
          exact ⟨by rw [HN.out]; rfl, by obtain ⟨j, e⟩ := hj; exact ⟨j + nq, by rw [e, World.drewN_drewN]⟩⟩
      · have hall : decide (xs = ys) = true := decide_eq_true (List.ext_getElem? (fun j => by
          by_cases hj : j < k
          · exact heq j hj
          · rw [List.getElem?_eq_none (by omega), List.getElem?_eq_none (by have := HL.out; omega)]))
        have HA := Lib.hid hall
        clear hall heq H3 H3'
        go_wp2
        go_ret
        exact ⟨by rw [HA.out]; rfl, hj⟩
  · have hno : decide (xs = ys) = false := decide_eq_false (fun e => hl (by rw [e]))
    have hne : ((xs.length : Int) != (ys.length : Int)) = true := by simp; omega
    have HN := Lib.hid hno
    clear hno hl h3 h3'
    go_enter Try.func25, Try.ntmps25
    go_wp2
    go_ret
    exact ⟨by rw [HN.out]; rfl, 0, rfl⟩
set_option maxRecDepth 100000 in
set_option maxHeartbeats 8000000 in
theorem rest_walk (v : Value) (rs : List Rw) (w : World) (h : RdF w v rs) (hz : rs.length * 24 ≤ 140737488351232) (hzs : ∀ r ∈ rs, r.ls.length * 8 ≤ 140737488351232) : Calls Try.prog 8 #[v] w (BoolQ true w) := by
  have HL := Lib.hid h
  have HZS := Lib.hid hzs
  have hle := h.rd.len_le
  have HLN := Lib.hid h.ln
  obtain ⟨a0, cap, rfl, h1, h2, h3⟩ := h.rd
  have H3 := Lib.hid h3
  clear h3 hzs h
  go_enter Try.func8, Try.ntmps8
  go_wp2
  go_loopw [3, 4] (fun s i wr => ∃ (k : Nat) (qs : List Rw), k ≤ rs.length ∧ i = .int .i64 k ∧ ROwn elR wr w.heap.size s qs ∧ (∀ q ∈ qs, ROwn elI wr w.heap.size q.v q.ls) ∧ mat qs = mat (rs.take k) ∧ Below w.heap.size w wr) (fun _ i _ => rs.length - (intOf i).toNat)
  case atStart => exact ⟨0, [], Nat.zero_le _, rfl, ROwn.nil _ _, by simp, by simp [mat], br _⟩
  case round =>
    obtain ⟨k, qs, hk, rfl, hown, hqs, hmt, hbw⟩ := hrel
    have HOWN := Lib.hid hown; have HQS := Lib.hid hqs; have HMT := Lib.hid hmt; have HBW := Lib.hid hbw
    have HQL : RowKit.Hid (qs.length = k) := Lib.hid (by have := congrArg List.length hmt; simp at this; omega)
    by_cases hlt : k < rs.length
    · obtain ⟨g, off, rfl, hbl, hc⟩ := H3.out (by omega)
      have d0 := (hbw.cell (p := ⟨g, off + k, none⟩) hbl).trans (eR_at hc k hlt)
      have i1 : (k : Int) < (rs.length : Int) := by omega
      have i0 : (0 : Int) ≤ (k : Int) := by omega
      have HTK : RowKit.Hid (mat (rs.take (k + 1)) = mat (rs.take k) ++ [rs[k].ls]) := Lib.hid (by
        unfold mat; rw [List.take_succ_eq_append_getElem hlt, List.map_append]; rfl)
      have HRD := Lib.hid ((HLN.out _ (List.getElem_mem hlt)).below hbw)
      have hrl := HZS.out _ (List.getElem_mem hlt)
      unfold RdI Rw.v at HRD
      unfold Rw.v at d0
      clear hc hown hqs hmt hbw
      generalize rs[k].ls = ls at *
      generalize rs[k].a = pa at *; generalize rs[k].cap = pc at *
      generalize hll : ls.length = ll at *
      have HLL := Lib.hid hll
      have d1 := fun o => kp ((br wr).alloc (Nat.le_refl _) o) d0
      clear hll
      go_wp2_with (first
        | (at_builtin; refine appE elI rfl (.tmp 19) (.tmp 23) rfl wr.heap.size _ [] rfl (ROwn.lit0 wr wr.heap.size wr.heap.size rfl (Nat.le_refl _)) _ ls rfl (HRD.out.below ((br wr).alloc (Nat.le_refl _) _)) (by rw [HLL.out]; show 0 + ll ≤ _; unfold maxLen; omega) (by rw [HLL.out]; show (0 + ll) * 8 ≤ _; omega) (by simp) ?_; intro v1 w5 hown1 hb5 hfar5; rw [List.nil_append] at hown1; have hsh := own_shape hown1; rw [HLL.out] at hsh; obtain ⟨ra, rc, rfl⟩ := hsh; have HO1 := Lib.hid hown1; have HB5 := Lib.hid (((br wr).alloc (Nat.le_refl _) _).trans hb5); clear hown1 hfar5 hb5)
        | (at_builtin; refine appE elR rfl (.tmp 18) (.tmp 25) rfl w.heap.size _ qs rfl ((HOWN.out.next HB5.out).next ((br _).alloc (Nat.le_refl _) _)) _ [⟨ra, rc, ls⟩] rfl (by have e2 := HLL.out; have := rd_lit elR [⟨ra, rc, ls⟩] w5 37 (0, 0) w5.heap.size rfl (by simp [maxLen]); simp only [List.flatMap_cons, List.flatMap_nil, eR, Rw.v, e2] at this; exact this) (by rw [HQL.out]; show k + 1 ≤ _; unfold maxLen; omega) (by rw [HQL.out]; show (k + 1) * 24 ≤ _; omega) (by have := HBW.out.size; have := HB5.out.size; rw [World.size_alloc]; omega) ?_; intro v2 w7 hown2 hb7 hfar7; have HO2 := Lib.hid hown2; have HB7 := Lib.hid hb7; have HF7 := Lib.hid hfar7; clear hown2 hb7 hfar7))
      have HQ7 : RowKit.Hid (∀ q ∈ qs ++ [(⟨ra, rc, ls⟩ : Rw)], ROwn elI w7 w.heap.size q.v q.ls) := Lib.hid (fun q hq => by
        have hal := (br w5).alloc (Nat.le_refl _) (.cells #[.slice ra ll rc] 37)
        have hP := (HOWN.out.next HB5.out).next hal
        rcases List.mem_append.1 hq with hq | hq
        · have hN := ((HQS.out q hq).next HB5.out).next hal
          exact own_far hN HF7.out (own_ne hP hN (by decide))
        · have : q = ⟨ra, rc, ls⟩ := by simpa using hq
          subst this
          have hR := HO1.out
          rw [← HLL.out] at hR
          have hN := (hR.base (base' := w.heap.size) HBW.out.size).next hal
          exact own_far hN HF7.out (own_ne hP hN (by decide)))
      have HB8 : RowKit.Hid (Below w.heap.size w w7) := Lib.hid (((HBW.out.trans (HB5.out.mono HBW.out.size)).alloc (by have := HBW.out.size; have := HB5.out.size; omega) _).trans HB7.out)
      have HM7 : RowKit.Hid (mat (qs ++ [(⟨ra, rc, ls⟩ : Rw)]) = mat (rs.take (k + 1))) := Lib.hid (by rw [HTK.out, ← HMT.out]; exact List.map_append)
      go_wp2
      go_roundw
      case rel => exact ⟨k + 1, _, by omega, by go_num, HO2.out, HQ7.out, HM7.out, HB8.out⟩
      case measure => simp [intOf]; omega
    · have ek : k = rs.length := by omega
      subst ek
      obtain ⟨wb, rfl⟩ : ∃ wb, wb = wr := ⟨_, rfl⟩
      rw [List.take_length] at hmt
      have HMT2 := Lib.hid hmt
      have HG : RowKit.Hid (RdF wb u3 qs) := Lib.hid ⟨hown.rd, fun q hq => (hqs q hq).rd⟩
      clear hmt hown hqs hbw HMT HOWN HQS HQL H3 HLN HZS
      generalize hgv : u3 = gv at *
      clear hgv
      by_cases c : chkF (mat rs) = 0
      · have hok := (chkF_ok _).1 c
        have hml : (mat rs).length = rs.length := List.length_map _
        have hsix := hok.six
        have hqr : qs.length = rs.length := by have := congrArg List.length HMT2.out; simpa using this
        have CM1 := Lib.hid (fun w' h => mend_any gv qs w' h (by rw [HMT2.out]; exact hok))
        rw [HMT2.out, hqr] at CM1
        have CM2 := Lib.hid (fun w' h => mend_any (.slice a0 rs.length cap) rs w' h hok)
        have hsl := mended_sl hok
        unfold mended at hsl
        rw [hml] at hsl hsix
        have HSL := Lib.hid hsl
        clear c hok hml hsl hqr
        go_wp2_with fail
        refine (CM1.out _ HG.out).mono ?_
        rintro en w1 ⟨go, ps, rfl, hM1, hp1, b1⟩
        go_wp2_with fail
        refine (CM2.out _ (HL.out.next (HBW.out.trans (b1.mono HBW.out.size)))).mono ?_
        rintro en w2 ⟨go2, ps2, rfl, hM2, hp2, b2⟩
        have hpl : ps.length = rs.length := by rw [← HSL.out.1.len, ← hp1, List.length_map]
        have hpl2 : ps2.length = rs.length := by rw [← HSL.out.1.len, ← hp2, List.length_map]
        have hrow : ∀ (i : Nat) (hi : i < ps.length), ps[i].2.length = rs.length - i := fun i hi => by
          have := HSL.out.1.row i (by omega)
          rw [← hp1, List.getD_eq_getElem?_getD, List.getElem?_map, List.getElem?_eq_getElem hi] at this
          exact this
        have hsame : ∀ (i : Nat) (hi : i < ps.length) (hi2 : i < ps2.length), ps[i].2 = ps2[i].2 := fun i hi hi2 => by
          have e : ps.map (·.2) = ps2.map (·.2) := by rw [hp1, hp2]
          have := congrArg (fun l => l[i]?) e
          simpa [hi, hi2] using this
        have hfar : ∀ b ∈ blks go ps, b ∉ blks go2 ps2 := fun b hb hm => by
          have e1 := hM1.lt b hb
          have e2 := hM2.gel b hm
          omega
        have b12 := b1.trans (b2.mono b1.size)
        go_wp2_with fail
        refine (begun_any _).mono ?_
        rintro en w3 ⟨rfl, b3⟩
        have hM1' := (hM1.kept (Kept.of_below b2) (fun b hb => by simp at hb)).kept (Kept.of_below b3) (fun b hb => by simp at hb)
        have hM2' := hM2.kept (Kept.of_below b3) (fun b hb => by simp at hb)
        have b13 := b12.trans (b3.mono b12.size)
        have HM1 := Lib.hid hM1'; have HM2 := Lib.hid hM2'; have B13 := Lib.hid b13; have HROW := Lib.hid hrow; have HSAME := Lib.hid hsame; have HFAR := Lib.hid hfar
        have HGE : RowKit.Hid (∀ b ∈ blks go ps, wb.heap.size ≤ b) := Lib.hid hM1.gel
        clear b1 b2 b3 b12 b13 hM1 hM2 hM1' hM2' hp1 hp2 hrow hsame hfar
        go_wp2
        go_loopw [9] (fun i wx => ∃ (k : Nat) (ps' : List (Nat × List Int)), k ≤ ps.length ∧ i = .int .i64 k ∧ Chg ps ps' k ∧ Mx wx wb.heap.size go ps' 0 ∧ Kept (blks go ps) w3 wx) (fun i _ => ps.length - (intOf i).toNat)
        case atStart => exact ⟨0, ps, Nat.zero_le _, rfl, Chg.refl ps 0, HM1.out, Kept.refl _ _⟩
        case round =>
          obtain ⟨i, ps', hi, rfl, hch, hM, hK⟩ := hrel
          have HCH := Lib.hid hch; have HM := Lib.hid hM; have HK := Lib.hid hK
          have hpl' : ps'.length = rs.length := by rw [hch.len, hpl]
          have ilen : (ps'.length : Int) = (ps.length : Int) := by rw [hch.len]
          obtain ⟨wx, rfl⟩ : ∃ wx, wx = wr := ⟨_, rfl⟩
          by_cases hlt : i < ps.length
          · have ii : (i : Int) < (ps.length : Int) := by omega
            have ii0 : (0 : Int) ≤ (i : Int) := by omega
            have ir : (i : Int) < (rs.length : Int) := by omega
            clear hch hM hK
            go_wp2
            go_loopw [10] (fun q wy => ∃ (k : Nat) (pq : List (Nat × List Int)), k ≤ rs.length - i ∧ q = .int .i64 k ∧ Chg ps pq (i + 1) ∧ Mx wy wb.heap.size go pq 0 ∧ Kept (blks go ps) w3 wy) (fun q _ => rs.length - i - (intOf q).toNat)
            case atStart => exact ⟨0, ps', Nat.zero_le _, rfl, HCH.out.more, HM.out, HK.out⟩
            case round =>
              obtain ⟨k, pq, hk2, rfl, hch2, hM2, hK2⟩ := hrel
              have hpq : pq.length = ps.length := hch2.len
              have hiq : i < pq.length := by omega
              have hL : pq[i].2.length = rs.length - i := by rw [hch2.snd i hlt hiq]; exact HROW.out i hlt
              have cRow := hM2.outer.cell i
              rw [List.replicate_zero, List.append_nil, List.getElem?_map, List.getElem?_eq_getElem hiq] at cRow
              simp only [Option.map_some, rowV] at cRow
              rw [hL] at cRow
              have HCH2 := Lib.hid hch2; have HM2' := Lib.hid hM2; have HK2 := Lib.hid hK2
              obtain ⟨L, hLL⟩ : ∃ L, rs.length - i = L := ⟨_, rfl⟩
              rw [hLL] at cRow hk2 hL
              by_cases hkl : k < L
              · have ik : (k : Int) < (L : Int) := by omega
                have ik0 : (0 : Int) ≤ (k : Int) := by omega
                have hL6 : L ≤ 6 := by omega
                have cOld := (hM2.inner i hiq).cell k
                have fOld := (hM2.inner i hiq).froz k
                rw [List.getElem?_map, List.getElem?_eq_getElem (by omega)] at cOld
                simp only [Option.map_some] at cOld
                have HFIN : RowKit.Hid (Mx (wr.setCell ⟨pq[i].1, k, none⟩ (.int .i64 (-5))) wb.heap.size go (pq.set i (pq[i].1, pq[i].2.set k (-5))) 0) := Lib.hid (hM2.set i k hiq (-5))
                have HCF : RowKit.Hid (Chg ps (pq.set i (pq[i].1, pq[i].2.set k (-5))) (i + 1)) := Lib.hid (hch2.set hiq k (-5))
                have HKF : RowKit.Hid (Kept (blks go ps) w3 (wr.setCell ⟨pq[i].1, k, none⟩ (.int .i64 (-5)))) := Lib.hid (hK2.set _ _ _ (.inl (by
                  rw [← hch2.blk go]; exact List.mem_cons_of_mem _ (List.mem_map.2 ⟨_, List.getElem_mem hiq, rfl⟩))))
                clear hch2 hM2 hK2
                generalize pq[i].1 = gb at *
                go_wp2
                go_roundw
                case rel => exact ⟨k + 1, _, by omega, by go_num, HCF.out, HFIN.out, HKF.out⟩
                case measure => simp [intOf]; omega
              · have ik : ¬ (k : Int) < (L : Int) := by omega
                have heq : ∀ (q : Nat) (h1 : q < pq.length) (h2 : q < ps2.length), i + 1 ≤ q → pq[q].2 = ps2[q].2 := fun q h1 h2 h3 => by
                  rw [hch2.old q (by omega) h1 h3]
                  exact HSAME.out q (by omega) h2
                have HEQ := Lib.hid heq
                have hM2n := hM2.kept (Kept.refl [] wr) (fun b hb => by simp at hb)
                have hMB : Mx wr w1.heap.size go2 ps2 0 := HM2.out.kept hK2 HFAR.out
                have HMB := Lib.hid hMB
                have HLP : RowKit.Hid (∀ (q : Nat) (h1 : q < pq.length), pq[q].2.length ≤ 6) := Lib.hid (fun q h1 => by
                  rw [hch2.snd q (by omega) h1, HROW.out q (by omega)]; omega)
                obtain ⟨wy, rfl⟩ : ∃ wy, wy = wr := ⟨_, rfl⟩
                clear hch2 hM2 hK2 heq hM2n hMB
                go_wp2
                go_loopw [11] (fun q wz => ∃ (k : Nat), i + 1 ≤ k ∧ k ≤ rs.length ∧ q = .int .i64 k ∧ ∃ j, wz = wy.drewN j) (fun q _ => rs.length - (intOf q).toNat)
                case atStart => exact ⟨i + 1, Nat.le_refl _, by omega, by first | rfl | go_num, 0, rfl⟩
                case round =>
                  obtain ⟨q, hq1, hq2, rfl, j, rfl⟩ := hrel
                  by_cases hql : q < rs.length
                  · have iq : (q : Int) < (rs.length : Int) := by omega
                    have iq0 : (0 : Int) ≤ (q : Int) := by omega
                    have iqp : (q : Int) < (ps.length : Int) := by omega
                    have hqp : q < pq.length := by omega
                    have hq2' : q < ps2.length := by omega
                    have cA := HM2'.out.outer.cell q
                    rw [List.replicate_zero, List.append_nil, List.getElem?_map, List.getElem?_eq_getElem hqp] at cA
                    have cB := HMB.out.outer.cell q
                    rw [List.replicate_zero, List.append_nil, List.getElem?_map, List.getElem?_eq_getElem hq2'] at cB
                    simp only [Option.map_some, rowV] at cA cB
                    have hrdA : ∀ W', Below wy.heap.size wy W' → Rd 1 eI W' (rowV pq[q]) pq[q].2 := fun W' hb => Rd.below ((HM2'.out.rdf (by omega) (fun i hi => by have := HLP.out i hi; omega)).ln _ (List.mem_map.2 ⟨_, List.getElem_mem hqp, rfl⟩)) hb
                    have hrdB : ∀ W', Below wy.heap.size wy W' → Rd 1 eI W' (rowV ps2[q]) ps2[q].2 := fun W' hb => Rd.below ((HMB.out.rdf (by omega) (fun i hi => by have := HROW.out i (by omega); rw [← HSAME.out i (by omega) hi, this]; omega)).ln _ (List.mem_map.2 ⟨_, List.getElem_mem hq2', rfl⟩)) hb
                    have CS : RowKit.Hid (∀ W', Below wy.heap.size wy W' → Calls Try.prog 25 #[rowV pq[q], rowV ps2[q]] W' fun e w' => e = .returned (.bool true) ∧ ∃ m, w' = W'.drewN m) := Lib.hid (fun W' hb => by
                      have := sameD_any _ _ _ _ W' (hrdA W' hb) (hrdB W' hb)
                      rw [HEQ.out q hqp hq2' hq1, decide_eq_true rfl] at this
                      exact this)
                    unfold rowV at CS
                    clear hrdA hrdB
                    generalize pq[q].1 = b1 at *; generalize ps2[q].1 = b2 at *
                    generalize pq[q].2.length = l1 at *; generalize ps2[q].2.length = l2 at *
                    go_wp2_with fail
                    go_quiet ((go_at_call 25; exact qe (CS.out _ (bn (br wy) _))))
                    go_wp2
                    go_roundw
                    case rel => exact ⟨q + 1, by omega, by omega, by go_num, j + nq, by first | rfl | simp⟩
                    case measure => simp [intOf]; omega
                  · have iq : ¬ (q : Int) < (rs.length : Int) := by omega
                    have iqp : ¬ (q : Int) < (ps.length : Int) := by omega
                    go_wp2
                    go_roundw
                    case rel => exact ⟨i + 1, pq, by omega, by go_num, HCH2.out, HM2'.out.kept ((Kept.refl [] _).drewN j) (fun b hb => by simp at hb), HK2.out.drewN j⟩
                    case measure => simp [intOf]; omega
          · have ii : ¬ (i : Int) < (ps.length : Int) := by omega
            have ir : ¬ (i : Int) < (rs.length : Int) := by omega
            have hbz : Below wb.heap.size w3 wx := hK.below B13.out.size HGE.out
            have hB4 : Below wb.heap.size wb wx := B13.out.trans hbz
            have HB4 := Lib.hid hB4
            have HB5 : RowKit.Hid (Below w.heap.size w wx) := Lib.hid (HBW.out.trans (hB4.mono HBW.out.size))
            clear hch hM hK hbz hB4
            go_wp2_with fail
            refine (same_is true _ _ qs rs _ (HG.out.next HB4.out) (HL.out.next HB5.out) (by rw [HMT2.out]; exact decide_eq_true rfl)).mono ?_
            rintro en w5 ⟨rfl, b5⟩
            go_wp2
            go_ret
            exact ⟨rfl, HB5.out.trans (b5.mono HB5.out.size)⟩
      · have CB1 := Lib.hid (fun w' h => mend_bad gv qs w' h (by rw [HMT2.out]; exact c))
        rw [HMT2.out] at CB1
        have CB2 := Lib.hid (fun w' h => mend_bad (.slice a0 rs.length cap) rs w' h c)
        clear c
        generalize chkF (mat rs) = ec at *
        go_wp2_with fail
        refine (CB1.out _ HG.out).mono ?_
        rintro en w1 ⟨rfl, b1⟩
        go_wp2_with fail
        refine (CB2.out _ (HL.out.next (HBW.out.trans (b1.mono HBW.out.size)))).mono ?_
        rintro en w2 ⟨rfl, b2⟩
        have b2 := bt b1 b2
        go_wp2_with fail
        refine (begun_any _).mono ?_
        rintro en w3 ⟨rfl, b3⟩
        have b3 := bt b2 b3
        have B3 := Lib.hid b3
        have hB4 : Below w.heap.size w w3 := HBW.out.trans (b3.mono HBW.out.size)
        have HB4 := Lib.hid hB4
        clear b1 b2 b3 hB4
        go_wp2
        go_loopw [9] (fun i wx => i = .int .i64 0 ∧ wx = w3) (fun _ _ => 0)
        case atStart => exact ⟨rfl, rfl⟩
        case round =>
          obtain ⟨rfl, rfl⟩ := hrel
          go_wp2_with fail
          refine (same_is true _ _ qs rs _ (HG.out.next B3.out) (HL.out.next HB4.out) (by rw [HMT2.out]; exact decide_eq_true rfl)).mono ?_
          rintro en w5 ⟨rfl, b5⟩
          go_wp2
          go_ret
          exact ⟨rfl, HB4.out.trans (b5.mono HB4.out.size)⟩
end Fa
end Go.Proofs.Ytcppeligeodomaa
