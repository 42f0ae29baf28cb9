/- The document's plan. -/
import Derived.Test.YtogohocokmhjcaaCoverRef2
import Derived.Test.YtogohocokmhjcaaCoverPlan2
set_option linter.unusedVariables false
namespace Go.Proofs.Ytogohocokmhjcaa
open Go.RowKit
theorem Tr.keep {W w w' : World} {g n B : Nat} {T : Nat → Int} (h : Tr W w g n T) (hb : Below B w w') (hg : g < B) (hB : W.heap.size ≤ B) : Tr W w' g n T :=
  ⟨h.below.trans (hb.mono hB), h.ge, by have := hb.size; have := h.lt; omega, fun j hj => (hb.cell (p := ⟨g, j, none⟩) hg).trans (h.cell j hj), fun j hj => (hb.frozen (p := ⟨g, j, none⟩) hg).trans (h.froz j hj)⟩
namespace Cv
/-- of the offers behind place q: the first one that fits, or -1 -/
def Taken (xs : List Offer) (m : Nat) (q t : Int) : Prop :=
  (t = -1 ∧ ∀ (j : Nat) (hj : j < xs.length), q < (j : Int) → fits xs m xs[j] = false) ∨
  (∃ k : Nat, t = k ∧ q < (k : Int) ∧ ∃ hk : k < xs.length, fits xs m xs[k] = true ∧ ∀ (j : Nat) (hj : j < xs.length), q < (j : Int) → j < k → fits xs m xs[j] = false)
theorem taken_yes {xs : List Offer} {m q : Nat} {t : Int} (hq : q < xs.length) (h : Taken xs m q t) (hf : fits xs m xs[q] = true) : Taken xs m ((q : Int) - 1) q := by
  refine .inr ⟨q, rfl, by omega, hq, hf, fun j hj h1 h2 => by omega⟩
theorem taken_no {xs : List Offer} {m q : Nat} {t : Int} (hq : q < xs.length) (h : Taken xs m q t) (hf : fits xs m xs[q] = false) : Taken xs m ((q : Int) - 1) t := by
  rcases h with ⟨e, h⟩ | ⟨k, e, hk, hk2, hk3, h⟩
  · refine .inl ⟨e, fun j hj h1 => ?_⟩
    by_cases e2 : j = q
    · subst e2; exact hf
    · exact h j hj (by omega)
  · refine .inr ⟨k, e, by omega, hk2, hk3, fun j hj h1 h2 => ?_⟩
    by_cases e2 : j = q
    · subst e2; exact hf
    · exact h j hj (by omega) h2
theorem taken_all {xs : List Offer} (ok : Ok xs) {m : Nat} (h1 : 1 ≤ m) (h2 : m ≤ 400) {t : Int} (h : Taken xs m (-1) t) : t = pick xs m := by
  rcases h with ⟨e, h⟩ | ⟨k, e, hk, hk2, hk3, h⟩
  · have p1 := pick_lt ok m h1 h2
    have p2 := pick_fits ok m h1 h2
    rw [h _ p1 (by omega)] at p2; cases p2
  · rw [e, pick_first m k hk2 hk3 (fun j hj h5 => h j hj (by omega) h5)]
set_option maxHeartbeats 4000000 in
set_option maxRecDepth 100000 in
theorem planR_any (v : Value) (xs : List Offer) (d : Int) (w : World) (h : Rd 2 eO w v xs) : Calls Try.prog 25 #[v, .int .i64 d] w (PlanQ xs d w) := by
  have H := Lib.hid h
  have hle := h.len_le
  obtain ⟨a, cap, rfl, h1, h2, h3⟩ := h
  have H3 := Lib.hid h3
  clear h3
  by_cases hr : readyF xs d = 0
  · obtain ⟨hc, n, rfl, hn⟩ := ready_ok hr
    obtain ⟨hl8, hok⟩ := check_ok hc
    have hf : bestF xs n = (best xs n, 0) := by unfold bestF; rw [if_neg (fun x => x hr)]; simp
    have Hr := Lib.hid hr; have OK := Lib.hid hok; have HF := Lib.hid hf
    clear hr hok hc hf
    go_enter Try.func25, Try.ntmps25
    go_wp2_with fail
    refine (bestR_any _ xs n _ H.out).mono ?_
    rintro en w1 ⟨rfl, hb1⟩
    rw [HF.out]
    have H1 := Lib.hid (H.out.below hb1)
    go_wp2_with fail
    refine (prices_any _ xs n hn _ H1.out hl8 OK.out).mono ?_
    rintro en w2 ⟨g, cp, T, rfl, g1, g2, hT, hB⟩
    have HT := Lib.hid hT; have HB := Lib.hid hB
    have hb2 := hT.below
    have hgl := hT.lt
    clear hT hB
    have hown0 : OwnI w2 w2.heap.size (.slice none 0 0) [] := World.ownsRow_nil w2 w2.heap.size 3 1
    have HO0 := Lib.hid hown0; clear hown0
    have hw12 : w1.heap.size ≤ w2.heap.size := hb2.size
    go_wp2_with fail
    go_loopw [1, 9] (fun z v wr => ∃ (y : Int) (L : List Int), z = .int .i64 y ∧ -400 ≤ y ∧ y ≤ (n : Int) ∧ RowKit.Hid (L ++ planL xs y.toNat = planL xs n) ∧ OwnI wr w2.heap.size v L ∧ Below w2.heap.size w2 wr) (fun z _ _ => (intOf z).toNat)
    case atStart => exact ⟨n, [], rfl, by omega, by omega, Lib.hid (by simp), HO0.out, br w2⟩
    case round =>
      obtain ⟨y, L, rfl, y2, y3, HL, hown, hbw⟩ := hrel
      clear HO0
      by_cases hy : 0 < y
      · obtain ⟨m, rfl⟩ : ∃ m : Nat, y = m := ⟨y.toNat, by omega⟩
        have hm0 : decide (0 < m) = true := decide_eq_true (by omega)
        have hLb : L.length ≤ 400 := by
          have e1 := congrArg List.length HL.out
          have e2 := planG_len xs n n
          rw [List.length_append] at e1
          unfold planL at e1; omega
        have HO := Lib.hid hown; clear hown
        have HBW := Lib.hid hbw; clear hbw
        go_wp2_with fail
        go_loopw [10, 11] (fun t i wy => ∃ (q tk : Int), i = .int .i64 q ∧ t = .int .i64 tk ∧ -1 ≤ q ∧ q < xs.length ∧ Taken xs m q tk ∧ OwnI wy w2.heap.size _ L ∧ Below w2.heap.size w2 wy) (fun _ i _ => (intOf i + 1).toNat)
        case atStart =>
          exact ⟨(xs.length : Int) - 1, -1, by first | rfl | go_num, rfl, by omega, by omega, .inl ⟨rfl, fun j hj h => by omega⟩, HO.out, HBW.out⟩
        case round =>
          obtain ⟨q, tk, rfl, rfl, z1, z2, hTk, hown, hbw⟩ := hrel
          clear HO HBW
          by_cases hq : 0 ≤ q
          · obtain ⟨k, rfl⟩ : ∃ k : Nat, q = k := ⟨q.toNat, by omega⟩
            have hlt : k < xs.length := by omega
            obtain ⟨b, off, rfl, hbl, hc⟩ := H3.out (by omega)
            obtain ⟨c0, c1⟩ := eO_at hc k hlt
            have hTr : Tr w1 wr g n T := HT.out.keep hbw hgl hw12
            have hbl1 : b < w1.heap.size := Nat.lt_of_lt_of_le hbl hb1.size
            have c0 := (hTr.below.cell (p := ⟨b, off + k * 2, none⟩) hbl1).trans ((hb1.cell (p := ⟨b, off + k * 2, none⟩) hbl).trans c0)
            have c1 := (hTr.below.cell (p := ⟨b, off + k * 2 + 1, none⟩) hbl1).trans ((hb1.cell (p := ⟨b, off + k * 2 + 1, none⟩) hbl).trans c1)
            clear hc H3 H H1
            have hok := OK.out.all _ (List.getElem_mem hlt)
            have hdec : fits xs m xs[k] = decide (xs[k].2 + best xs (m - xs[k].1.toNat) = best xs m) := rfl
            have hyes := fun hf => taken_yes hlt hTk hf
            have hno := fun hf => taken_no hlt hTk hf
            have HY := Lib.hid hyes; have HN := Lib.hid hno
            clear hyes hno hTk
            generalize hcx : xs[k] = c at *
            obtain ⟨cd, cp'⟩ := c
            obtain ⟨q1, q2, q3, q4⟩ := hok
            obtain ⟨kk, hkk⟩ : ∃ kk : Nat, kk = m - cd.toNat := ⟨_, rfl⟩
            simp only at q1 q2 q3 q4 c0 c1 hdec
            rw [← hkk] at hdec
            have hcase : (cd > (m : Int) ∧ kk = 0) ∨ (cd ≤ (m : Int) ∧ (m : Int) - cd = (kk : Int)) := by omega
            have hk4 : kk ≤ n := by omega
            have hm4 : m ≤ n := by omega
            have hbk := best_bd OK.out kk
            have hbm := best_bd OK.out m
            have cM := hTr.cell m hm4
            have cK := hTr.cell kk hk4
            rw [HB.out m hm4] at cM
            rw [HB.out kk hk4] at cK
            have hkb : 0 ≤ best xs kk ∧ best xs kk ≤ 1000000000 := by omega
            have hfits : (fits xs m (cd, cp') = true ∧ (best xs kk + cp' == best xs m) = true) ∨ (fits xs m (cd, cp') = false ∧ (best xs kk + cp' == best xs m) = false) := by
              by_cases e : cp' + best xs kk = best xs m
              · exact .inl ⟨hdec.trans (decide_eq_true e), beq_iff_eq.2 (by omega)⟩
              · exact .inr ⟨hdec.trans (decide_eq_false e), beq_eq_false_iff_ne.2 (by omega)⟩
            have HO := Lib.hid hown; have HBW := Lib.hid hbw
            have i0 : (0 : Int) ≤ (m : Int) := by omega
            have i1 : (m : Int) < (n : Int) + 1 := by omega
            have i2 : (0 : Int) ≤ (kk : Int) := by omega
            have i3 : (kk : Int) < (n : Int) + 1 := by omega
            have i4 : (k : Int) < (xs.length : Int) := by omega
            have s1 : IntKind.i64.wrap (best xs kk + cp') = best xs kk + cp' := IntWalk.i64_in _ (by omega)
            clear hown hbw hTr hcx hkk hdec hbk hbm
            generalize best xs kk = Bk at *
            generalize best xs m = Bm at *
            rcases hcase with ⟨e1, rfl⟩ | ⟨e1, e2⟩
            all_goals
              rcases hfits with ⟨f1', f2'⟩ | ⟨f1', f2'⟩
              · have HT2 := Lib.hid (HY.out f1')
                clear HY HN f1'
                go_wp2_with fail
                go_quiet (fail)
                go_wp2
                go_roundw
                case rel => exact ⟨(k : Int) - 1, k, by first | rfl | go_num, rfl, by omega, by omega, HT2.out, HO.out, by first | exact bn HBW.out _ | exact (HBW.out).trans (bn (br _) _)⟩
                case measure => first | (simp [intOf]; done) | (simp [intOf]; omega)
              · have HT2 := Lib.hid (HN.out f1')
                clear HY HN f1'
                go_wp2_with fail
                go_quiet (fail)
                go_wp2
                go_roundw
                case rel => exact ⟨(k : Int) - 1, tk, by first | rfl | go_num, rfl, by omega, by omega, HT2.out, HO.out, by first | exact bn HBW.out _ | exact (HBW.out).trans (bn (br _) _)⟩
                case measure => first | (simp [intOf]; done) | (simp [intOf]; omega)
          · obtain rfl : q = -1 := by omega
            have htk := taken_all OK.out (m := m) (by omega) (by omega) hTk
            subst htk
            have hlt := pick_lt OK.out m (by omega) (by omega)
            have hstep := planL_step OK.out m (by omega) (by omega)
            generalize pick xs m = k at *
            obtain ⟨b, off, rfl, hbl, hc⟩ := H3.out (by omega)
            obtain ⟨c0, c1⟩ := eO_at hc k hlt
            have hTr : Tr w1 wr g n T := HT.out.keep hbw hgl hw12
            have hbl1 : b < w1.heap.size := Nat.lt_of_lt_of_le hbl hb1.size
            have c0 := (hTr.below.cell (p := ⟨b, off + k * 2, none⟩) hbl1).trans ((hb1.cell (p := ⟨b, off + k * 2, none⟩) hbl).trans c0)
            have hday : daysAt xs k = xs[k].1.toNat := by unfold daysAt; rw [List.getD_eq_getElem?_getD, List.getElem?_eq_getElem hlt]; rfl
            have hok := OK.out.all _ (List.getElem_mem hlt)
            clear hc c1 H3 H H1 hTk
            have HSTEP := Lib.hid hstep; have HDAY := Lib.hid hday
            clear hstep hday
            generalize xs[k] = c at *
            obtain ⟨cd, cp'⟩ := c
            obtain ⟨q1, q2, q3, q4⟩ := hok
            simp only at q1 q2 q3 q4 c0
            have hnewl : RowKit.Hid ((L ++ [(k : Int)]) ++ planL xs ((m : Int) - cd).toNat = planL xs n) := Lib.hid (by
              have e1 := HL.out
              rw [Int.toNat_natCast, HSTEP.out, HDAY.out] at e1
              rw [← e1, List.append_assoc, show ((m : Int) - cd).toNat = m - cd.toNat by omega]
              rfl)
            have HO := Lib.hid hown; have HBW := Lib.hid hbw
            have hbase : w2.heap.size ≤ wr.heap.size := hbw.size
            have hbB : b < w2.heap.size := Nat.lt_of_lt_of_le hbl1 hw12
            have i4 : (k : Int) < (xs.length : Int) := by omega
            clear hown hbw hTr
            go_wp2_with (at_builtin; refine app_int rfl (.tmp 59) (.tmp 61) rfl w2.heap.size _ L rfl (HO.out.next ((br wr).alloc (Nat.le_refl _) (.cells #[.int .i64 k] 3))) wr.heap.size 1 k rfl (by rw [World.cell?_alloc_mark]; rfl) (by omega) (by simp; omega) ?_; intro v1 w3 hown3 hbe; have e0 := (hbe.cell (p := ⟨b, off + k * 2, none⟩) hbB).trans ((World.cell?_alloc_lt wr _ ⟨b, off + k * 2, none⟩ (Nat.lt_of_lt_of_le hbB hbase)).trans c0); have HO4 := Lib.hid hown3; have HBE := Lib.hid hbe; clear hown3 hbe)
            go_roundw
            case rel => exact ⟨(m : Int) - cd, L ++ [(k : Int)], by first | rfl | go_num, by omega, by omega, hnewl, HO4.out, (HBW.out.alloc hbase (.cells #[.int .i64 k] 3)).trans HBE.out⟩
            case measure => first | (simp [intOf]; done) | (simp [intOf]; omega)
      · have hz : y.toNat = 0 := by omega
        have hL : L = planL xs n := by
          have := HL.out
          rw [hz, planL_zero, List.append_nil] at this
          exact this
        have HLL := Lib.hid hL; have HO := Lib.hid hown
        clear hL hown hz HL
        go_wp2
        go_ret2
        exact ⟨_, L, by rw [Hr.out]; rfl, HO.out.rd, bt (bt hb1 hb2) hbw, by rw [Hr.out, if_pos rfl, HLL.out]; rfl⟩
  · have hf : bestF xs d = (0, readyF xs d) := by unfold bestF; rw [if_pos hr]
    have hb : (readyF xs d != 0) = true := by simp [hr]
    generalize hC : readyF xs d = C at *
    have HC := Lib.hid hC; have HF := Lib.hid hf
    have HR := Lib.hid hr
    clear hr hC hf
    go_enter Try.func25, Try.ntmps25
    go_wp2_with fail
    refine (bestR_any _ xs d _ H.out).mono ?_
    rintro en w1 ⟨rfl, hb1⟩
    rw [HF.out]
    go_wp2
    go_ret2
    exact ⟨_, [], by rw [HC.out]; rfl, Rd.nil _, hb1, by rw [HC.out, if_neg HR.out]⟩
end Cv
end Go.Proofs.Ytogohocokmhjcaa
