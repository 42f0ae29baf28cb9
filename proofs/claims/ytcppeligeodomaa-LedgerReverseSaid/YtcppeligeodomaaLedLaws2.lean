/- Ledgers: in whatever order, and however often, postings come. -/
import Derived.Test.YtcppeligeodomaaLedLaws
import Derived.Test.YtcppeligeodomaaOpenP
set_option linter.unusedVariables false
namespace Go.Proofs.Ytcppeligeodomaa
open Go.RowKit
namespace Ld
open Pn
theorem chk_rev (l : List Pg) (h : chk l = 0) : chk l.reverse = 0 := by
  obtain ⟨h1, h2, h3⟩ := (chk_ok l).1 h
  refine (chk_ok _).2 ⟨by simpa using h1, fun p hp => h2 p (List.mem_reverse.1 hp), ?_⟩
  rw [List.pairwise_reverse]
  exact h3.imp (fun h e => h e.symm)
set_option maxHeartbeats 4000000 in
theorem order_walk (v : Value) (ps : List Po) (ac : Int) (w : World) (h : RdL w v ps) : Calls Try.prog 12 #[v, .int .i64 ac] w (BoolQ true w) := by
  have CB := Lib.hid (fun w => begun_any w)
  have HL := Lib.hid h
  by_cases c1 : (balance (pgs ps) ac).2 ≠ 0
  · have hz := balance_err _ _ c1
    have C1 := Lib.hid (balance_is v ps ac w h (0, (balance (pgs ps) ac).2) (by rw [← hz]))
    have hn : ((balance (pgs ps) ac).2 != 0) = true := by simpa using c1
    clear c1 hz h
    generalize (balance (pgs ps) ac).2 = ec at *
    go_enter Try.func12, Try.ntmps12
    go_wp2_with fail
    refine C1.out.mono ?_
    rintro en w1 ⟨rfl, b1⟩
    go_wp2_with fail
    refine (CB.out _).mono ?_
    rintro en w2 ⟨rfl, b2⟩
    go_wp2
    go_ret
    exact ⟨rfl, bt b1 b2⟩
  have c1' : (balance (pgs ps) ac).2 = 0 := Classical.byContradiction c1
  obtain ⟨hc, a1, a2, hb⟩ := balance_zero _ _ c1'
  have C1 := Lib.hid (balance_is v ps ac w h (bal ac (pgs ps), 0) (by rw [← hb, ← c1']))
  have HC := Lib.hid hc
  have CE := Lib.hid (fun v' os w' (h : RdL w' v' os) (hp : pgs os = (pgs ps).reverse) => balance_is v' os ac w' h (bal ac (pgs ps), 0) (by rw [hp, balance_ok _ _ (chk_rev _ hc), if_neg (by omega), bal_rev]))
  have hle := h.rd.len_le
  obtain ⟨a, cap, rfl, g1, g2, g3⟩ := h.rd
  have G3 := Lib.hid g3
  have hw1 : IntKind.i64.wrap ((ps.length : Int) - 1) = (ps.length : Int) - 1 := IntWalk.i64_in _ (by omega)
  clear c1 c1' hc hb h g3
  generalize bal ac (pgs ps) = B at *
  go_enter Try.func12, Try.ntmps12
  go_wp2_with fail
  refine C1.out.mono ?_
  rintro en w1 ⟨rfl, b1⟩
  go_wp2_with fail
  refine (CB.out _).mono ?_
  rintro en w2 ⟨rfl, b2⟩
  have HB2 := Lib.hid (bt b1 b2)
  clear b1 b2
  go_wp2
  go_loopw [7, 8] (fun u i wr => ∃ (k : Nat) (q : Int) (os : List Po), k ≤ ps.length ∧ q = (k : Int) - 1 ∧ i = .int .i64 q ∧ RdL wr u os ∧ pgs os = ((pgs ps).drop k).reverse ∧ Below w.heap.size w wr) (fun _ i _ => ((intOf i) + 1).toNat)
  case atStart => exact ⟨ps.length, _, [], Nat.le_refl _, rfl, rfl, RdL.nil _, by rw [List.drop_eq_nil_of_le (by simp)]; rfl, HB2.out⟩
  case round =>
    obtain ⟨k, q, os, hk, hq, rfl, hL, hP, hbw⟩ := hrel
    have HBW := Lib.hid hbw
    rcases k with _ | k
    · have e : q = -1 := by omega
      subst e
      rw [List.drop_zero] at hP
      obtain ⟨a5, c5, rfl⟩ := hL.shape ps.length (by rw [hP]; simp)
      have HCE := Lib.hid (CE.out _ os _ hL hP)
      clear G3 hq hw1 hL hP hbw CE
      go_wp2_with fail
      refine HCE.out.mono ?_
      rintro en w5 ⟨rfl, b5⟩
      go_wp2
      go_ret
      exact ⟨by first | rfl | (simp; done), bt HBW.out b5⟩
    · have hlt : k < ps.length := by omega
      have e : q = (k : Int) := by omega
      subst e
      clear hq
      obtain ⟨g, off, rfl, hbl, hcc⟩ := G3.out (by omega)
      obtain ⟨q0, q1⟩ := eP_at hcc k hlt
      have d0 := (hbw.cell (p := ⟨g, off + k * 2, none⟩) hbl).trans q0
      have d1 := (hbw.cell (p := ⟨g, off + k * 2 + 1, none⟩) hbl).trans q1
      have i1 : (k : Int) < (ps.length : Int) := by omega
      have i0 : (0 : Int) ≤ (k : Int) := by omega
      have hst := order_step (pgs ps) HC.out k (by simpa using hlt)
      rw [← hP, List.getElem_map] at hst
      have CK := Lib.hid (post_is _ os ps[k] wr hL ((HL.out.ln _ (List.getElem_mem hlt)).below hbw) _ hst)
      have hw : IntKind.i64.wrap ((k : Int) - 1) = (k : Int) - 1 := IntWalk.i64_in _ (by omega)
      clear hcc q0 q1 G3 hst hL hP hbw CE hw1
      unfold aP Po.v at CK
      unfold Po.v at d1
      generalize ps[k].id = t at *; generalize ps[k].a = pa at *; generalize ps[k].ls.length = pl at *; generalize ps[k].cap = pc at *
      go_wp2_with fail
      refine CK.out.mono ?_
      rintro en w5 ⟨v5, os5, rfl, L5, P5, b5⟩
      have HL5 := Lib.hid L5; have HP5 := Lib.hid P5; have HB5 := Lib.hid (bt HBW.out b5)
      clear L5 P5 b5
      go_wp2
      go_roundw
      case rel => exact ⟨k, _, os5, by omega, rfl, rfl, HL5.out, HP5.out, HB5.out⟩
      case measure => first | (simp [intOf]; done) | (simp [intOf]; omega)
end Ld
end Go.Proofs.Ytcppeligeodomaa
