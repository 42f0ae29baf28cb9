/- Ledgers: a posting is posted, or turned back. -/
import Derived.Test.YtcppeligeodomaaLedPost
set_option linter.unusedVariables false
namespace Go.Proofs.Ytcppeligeodomaa
open Go.RowKit
theorem ROwn.set {α : Type} {E : El α} {w : World} {base b j : Nat} {v u : Value} {xs : List α} (h : ROwn E w base v xs) (hb : v.ownBlock ≠ some b) : ROwn E (w.setCell ⟨b, j, none⟩ u) base v xs := by
  obtain ⟨hl, h | ⟨g, cap, cur, rfl, h2, h3, h4, h5, h6, h7⟩⟩ := h
  · exact ⟨hl, .inl h⟩
  · refine ⟨hl, .inr ⟨g, cap, cur, rfl, h2, ?_, h4, h5, h6, h7⟩⟩
    have hne : g ≠ b := fun e => hb (by rw [e]; rfl)
    rw [Below.heap_setCell _ _ _ _ hne]; exact h3
namespace Ld
open Pn
theorem post_any (v : Value) (ps : List Po) (p : Po) (w : World) (h : RdL w v ps) (hp : RdN w p) : Calls Try.prog 26 #[v, aP p] w (PostQ (post (pgs ps) p.pg) w) := by
  obtain ⟨id, pa, pc, ls⟩ := p
  show Calls Try.prog 26 #[v, .agg #[.int .i64 id, .slice pa ls.length pc]] w (PostQ (post (pgs ps) (id, ls)) w)
  by_cases c1 : chk (pgs ps) ≠ 0
  · have hr : post (pgs ps) (id, ls) = ([], chk (pgs ps)) := by unfold post; rw [if_pos c1]
    rw [hr]; exact post_bad1 v ps id pa pc ls w h hp c1
  have c1' : chk (pgs ps) = 0 := by simpa using c1
  by_cases c2 : pchk (id, ls) ≠ 0
  · have hr : post (pgs ps) (id, ls) = ([], pchk (id, ls)) := by unfold post; rw [if_neg c1, if_pos c2]
    rw [hr]; exact post_bad2 v ps id pa pc ls w h hp c1' c2
  have c2' : pchk (id, ls) = 0 := by simpa using c2
  have hok := (chk_ok _).1 c1'
  have hlen : ps.length ≤ 100 := by simpa using hok.1
  have h6 : ∀ q ∈ ps, q.ls.length ≤ 6 := fun q hq => (hok.2.1 q.pg (List.mem_map.2 ⟨q, hq, rfl⟩)).six
  rcases find_at id ps with ⟨f1, f2⟩ | ⟨n, hn, f1, f2, f3⟩
  · by_cases c3 : ps.length = 100
    · have hr : post (pgs ps) (id, ls) = ([], 2) := by unfold post; rw [if_neg c1, if_neg c2, f2]; simp only [List.length_map, pgs]; rw [if_pos c3]
      rw [hr]; exact post_many v ps id pa pc ls w h hp c1' c2' f1 c3
    · have hr : post (pgs ps) (id, ls) = (pgs ps ++ [(id, ls)], 0) := by unfold post; rw [if_neg c1, if_neg c2, f2]; simp only [List.length_map, pgs]; rw [if_neg c3]
      rw [hr]; exact post_new v ps id pa pc ls w h hp c1' c2' f1 (by omega) h6 ((pchk_ok _).1 c2').six
  · by_cases c3 : ps[n].ls = ls
    · have hr : post (pgs ps) (id, ls) = (pgs ps, 0) := by unfold post; rw [if_neg c1, if_neg c2, f2]; simp only [c3, if_true]
      rw [hr]; exact post_same v ps id pa pc ls w h hp c1' c2' n hn f1 hlen h6 c3
    · have hr : post (pgs ps) (id, ls) = ([], 6) := by unfold post; rw [if_neg c1, if_neg c2, f2]; simp only [c3, if_false]
      rw [hr]; exact post_diff v ps id pa pc ls w h hp c1' c2' n hn f1 hlen h6 c3
theorem neg_take (ls : List Ln) (j : Nat) (h : j < ls.length) : neg (ls.take (j + 1)) = neg (ls.take j) ++ [(ls[j].1, -ls[j].2)] := by
  unfold neg; rw [List.take_succ_eq_append_getElem h, List.map_append]; rfl
set_option maxHeartbeats 4000000 in
theorem rev_any (v : Value) (ps : List Po) (id nw : Int) (w : World) (h : RdL w v ps) : Calls Try.prog 28 #[v, .int .i64 id, .int .i64 nw] w (PostQ (rev (pgs ps) id nw) w) := by
  have C1 := Lib.hid (check_any v ps w h)
  have C3 := Lib.hid (fun w' h => at_any id v ps w' h)
  have HL := Lib.hid h
  clear h
  by_cases c1 : chk (pgs ps) ≠ 0
  · have hr : rev (pgs ps) id nw = ([], chk (pgs ps)) := by unfold rev; rw [if_pos c1]
    rw [hr]
    have hn : (chk (pgs ps) != 0) = true := by simpa using c1
    clear c1 hr
    generalize chk (pgs ps) = ec at *
    go_enter Try.func28, Try.ntmps28
    go_wp2_with fail
    refine C1.out.mono ?_
    rintro en w1 ⟨rfl, hb1⟩
    go_wp2
    go_ret2
    exact ⟨_, [], rfl, RdL.nil _, rfl, hb1⟩
  have c1' : chk (pgs ps) = 0 := by simpa using c1
  rw [c1'] at C1
  rcases find_at id ps with ⟨f1, f2⟩ | ⟨n, hn, f1, f2, f3⟩
  · have hr : rev (pgs ps) id nw = ([], 5) := by unfold rev; rw [if_neg c1, f2]
    rw [hr]
    clear c1 c1' hr f2
    generalize findI (isP id) ps = fi at *
    go_enter Try.func28, Try.ntmps28
    go_wp2_with fail
    refine C1.out.mono ?_
    rintro en w1 ⟨rfl, hb1⟩
    go_wp2_with fail
    refine (C3.out _ (HL.out.rd.below hb1)).mono ?_
    rintro en w2 ⟨rfl, hb2⟩
    go_wp2
    go_ret2
    exact ⟨_, [], rfl, RdL.nil _, rfl, bt hb1 hb2⟩
  · have hr : rev (pgs ps) id nw = post (pgs ps) (nw, neg ps[n].ls) := by unfold rev; rw [if_neg c1, f2]
    rw [hr]
    rw [f1] at C3
    obtain ⟨h1, h2, _⟩ := (chk_ok _).1 c1'
    have hOk := h2 ps[n].pg (List.mem_map.2 ⟨ps[n], List.getElem_mem hn, rfl⟩)
    have HOK := Lib.hid hOk
    have CP := Lib.hid (fun w1 (hw1 : Below w.heap.size w w1) p hp => post_any v ps p w1 (HL.out.next hw1) hp)
    have hlt1 : (n : Int) < (ps.length : Int) := by omega
    have i0 : (0 : Int) ≤ (n : Int) := by omega
    have HRN := Lib.hid (HL.out.ln _ (List.getElem_mem hn))
    have hls6 := hOk.six
    obtain ⟨a, cap, rfl, g1, g2, g3⟩ := HL.out.rd
    obtain ⟨g, off, rfl, hbl, hc⟩ := g3 (by omega)
    obtain ⟨-, q1⟩ := eP_at hc n hn
    clear g3 hc hOk h1 h2 c1 c1' hr f1 f2 f3
    unfold Po.v at q1
    unfold RdN Po.v at HRN
    unfold Po.pg at HOK hls6
    simp only at hls6
    generalize ps[n].ls = ls at *
    generalize ps[n].a = na at *; generalize ps[n].cap = nc at *
    go_enter Try.func28, Try.ntmps28
    go_wp2_with fail
    refine C1.out.mono ?_
    rintro en w1 ⟨rfl, hb1⟩
    go_wp2_with fail
    refine (C3.out _ (HL.out.rd.below hb1)).mono ?_
    rintro en w2 ⟨rfl, hb2⟩
    have H2 := Lib.hid (bt hb1 hb2)
    have e1 := kp ((br w2).alloc (Nat.le_refl _) (.cells #[.int .i64 nw, .slice none 0 0] 42)) (kp H2.out q1)
    have HR2 := Lib.hid (HRN.out.below H2.out)
    clear hb1 hb2 q1
    obtain ⟨a', cap', e, g1', g2', g3⟩ := HR2.out
    injection e with e1' e2' e3'
    subst e1' e3'
    clear e2'
    have G3 := Lib.hid g3; clear g3
    go_wp2_with fail
    go_loopw [31] (fun i wr => ∃ (j : Nat) (u : Value), j ≤ ls.length ∧ i = .int .i64 j ∧ Box wr w2.heap.size 42 [.int .i64 nw, u] ∧ ROwn elN wr (w2.heap.size + 1) u (neg (ls.take j)) ∧ Below w2.heap.size w2 wr) (fun i _ => ls.length - (intOf i).toNat)
    case atStart => exact ⟨0, .slice none 0 0, Nat.zero_le _, rfl, Box.new _ _ _, ROwn.nil _ _, (br _).alloc (Nat.le_refl _) _⟩
    case round =>
      obtain ⟨j, u, hj, rfl, hbox, hown, hbw⟩ := hrel
      by_cases hjt : j < ls.length
      · obtain ⟨g', off', rfl, hbl', hc'⟩ := G3.out (by omega)
        obtain ⟨q0, q1⟩ := eN_at hc' j hjt
        have e0 := (hbw.cell (p := ⟨g', off' + j * 2, none⟩) hbl').trans q0
        have e2 := (hbw.cell (p := ⟨g', off' + j * 2 + 1, none⟩) hbl').trans q1
        have i2 : (j : Int) < (ls.length : Int) := by omega
        have i3 : (0 : Int) ≤ (j : Int) := by omega
        have hA := (HOK.out.ln ls[j] (List.getElem_mem hjt)).2.2.1
        unfold isA at hA
        have HNT := Lib.hid (neg_take ls j hjt)
        have HW := Lib.hid hbw
        clear hc' q0 q1 G3 hbw e1
        generalize ls[j].1 = ac at *; generalize ls[j].2 = pe at *
        have hwr : IntKind.i64.wrap (-pe) = -pe := IntWalk.i64_in _ (by omega)
        have hlt := hbox.lt
        have hbox2 : Box (wr.alloc (.cells #[.int .i64 ac, .int .i64 (-pe)] 62)) w2.heap.size 42 [.int .i64 nw, u] := hbox.alloc _
        have f2 := hbox2.cell 1
        have hown2 : ROwn elN (wr.alloc (.cells #[.int .i64 ac, .int .i64 (-pe)] 62)) (w2.heap.size + 1) u (neg (ls.take j)) :=
          hown.next ((br _).alloc (Nat.le_refl _) _)
        have hbl2 : Below w2.heap.size w2 (wr.alloc (.cells #[.int .i64 ac, .int .i64 (-pe)] 62)) := HW.out.alloc HW.out.size _
        simp only [List.getElem?_cons_zero, List.getElem?_cons_succ] at f2
        have hnl : (neg (ls.take j)).length = j := by unfold neg; simp; omega
        have HNL := Lib.hid hnl
        have HBX := Lib.hid hbox2; have HON := Lib.hid hown2; have HBL := Lib.hid hbl2
        have HSZ : RowKit.Hid (w2.heap.size + 1 ≤ (wr.alloc (.cells #[.int .i64 ac, .int .i64 (-pe)] 62)).heap.size) := Lib.hid (by simp; omega)
        clear hbox hown hbox2 hown2 hbl2 hnl hlt
        go_wp2_with (at_builtin; refine appE elN rfl (.tmp 40) (.tmp 42) rfl (w2.heap.size + 1) u _ rfl (HON.out.next ((br _).alloc (Nat.le_refl _) _)) _ [(ac, -pe)] rfl (rd_lit elN [(ac, -pe)] _ _ _ _ (by simp) (by simp [maxLen])) (by rw [HNL.out]; show j + 1 ≤ _; unfold maxLen; omega) (by rw [HNL.out]; show (j + 1) * 16 ≤ _; omega) (by have := HSZ.out; simp at this ⊢; omega) ?_; intro v5 w5 hown5 hb5 hfar5; have hsh := hown5.shape; rw [show (neg (ls.take j) ++ [(ac, -pe)]).length = j + 1 by rw [List.length_append, HNL.out]; rfl] at hsh; obtain ⟨a5, c5, rfl⟩ := hsh; have hbx5 := (HBX.out.alloc (.cells #[.int .i64 ac, .int .i64 (-pe)] 62)).of_block (hb5.block w2.heap.size (by omega)); have hc1 := hbx5.cell 1; have hf1 := hbx5.froz 1; simp only [List.getElem?_cons_zero, List.getElem?_cons_succ] at hc1; have HO5 := Lib.hid hown5; have HB5 := Lib.hid hb5; have HX5 := Lib.hid hbx5; clear hown5 hfar5 hb5 hbx5)
        have hbx6 := HX5.out.set 1 (.slice a5 (j + 1) c5)
        have HB6 : RowKit.Hid (Below w2.heap.size w2 (w5.setCell ⟨w2.heap.size, 1, none⟩ (.slice a5 (j + 1) c5))) := Lib.hid (((HBL.out.alloc HBL.out.size _).trans (HB5.out.mono (by omega))).setCell (Nat.le_refl _) _)
        have HO6 : RowKit.Hid (ROwn elN (w5.setCell ⟨w2.heap.size, 1, none⟩ (.slice a5 (j + 1) c5)) (w2.heap.size + 1) (.slice a5 (j + 1) c5) (neg (ls.take (j + 1)))) := Lib.hid (by
          rw [HNT.out]
          exact HO5.out.set (fun e => by have := (HO5.out.lt _ e).1; omega))
        have HX6 := Lib.hid hbx6
        clear hbx6
        go_roundw
        case rel => exact ⟨j + 1, _, by omega, by go_num, HX6.out, HO6.out, HB6.out⟩
        case measure => simp [intOf]; omega
      · have e : j = ls.length := by omega
        subst e
        rw [List.take_length] at hown
        obtain ⟨a6, c6, rfl⟩ := hown.shape
        have f0 := hbox.cell 0; have f1 := hbox.cell 1
        simp only [List.getElem?_cons_zero, List.getElem?_cons_succ] at f0 f1
        have HW := Lib.hid (H2.out.trans (hbw.mono H2.out.size))
        have HRd : RowKit.Hid (RdN wr ⟨nw, a6, c6, neg ls⟩) := Lib.hid hown.rd
        clear G3 e1 hbw hown hbox
        go_wp2_with fail
        refine (CP.out _ HW.out ⟨nw, a6, c6, neg ls⟩ HRd.out).mono ?_
        rintro en w7 ⟨v', qs, rfl, hrd, hpg, hb7⟩
        go_wp2
        go_ret2
        exact ⟨_, qs, rfl, hrd, hpg, bt HW.out hb7⟩
end Ld
end Go.Proofs.Ytcppeligeodomaa
