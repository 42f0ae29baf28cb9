/- Sets of days: both swept: Union, Meet, Minus; Has and Size. -/
import Derived.Test.YtcgncmlldjblmaaSpansOps
import Derived.Test.YtcgncmlldjblmaaFindPlain
set_option linter.unusedSimpArgs false
set_option linter.unusedVariables false
namespace Go.Proofs.Ytcgncmlldjblmaa
open Go.RowKit
namespace Sn
def bothE (op : Int) (a b : List Sp) : Int := if chkS a = 0 then (if chkS b = 0 then (if 64 < (byL op a b).length then 2 else 0) else chkS b) else chkS a
def bothR (op : Int) (a b : List Sp) : List Sp := if bothE op a b = 0 then byL op a b else []
theorem chk_le {l : List Sp} (h : chkS l = 0) : ∀ s ∈ l, s.1 ≤ s.2 := by
  obtain ⟨_, _, h3⟩ := (chkS_ok l).1 h
  clear h
  intro s hs
  induction l with
  | nil => simp at hs
  | cons t l ih =>
    rcases List.mem_cons.1 hs with rfl | hs
    · have := canon_head h3; omega
    · exact ih (by simp at *; omega) (fun x hx => by simp_all) (canon_tail h3) hs
theorem both_sweep (op : Int) (hop : op = 0 ∨ op = 1 ∨ op = 2) (a b : List Sp) (ha : ∀ s ∈ a, s.1 ≤ s.2) (hb : ∀ s ∈ b, s.1 ≤ s.2) (ys : List Ed) (hp : ys.Perm (edgesOf 1 0 a ++ edgesOf 0 1 b)) (hr : Ris ys) : sweepL (wnt op) ys 0 0 false [] = byL op a b := by
  obtain ⟨h1, h2⟩ := sweep_two (wnt op) a b ys ha hb hp hr (by rcases hop with rfl | rfl | rfl <;> rfl)
  obtain ⟨g1, g2⟩ := byL_is op a b
  refine canon_unique h1 g1 (fun n => ?_)
  rw [h2, g2, wnt_is op hop]
set_option maxRecDepth 100000 in
set_option maxHeartbeats 4000000 in
theorem both_any (op : Int) (hop : op = 0 ∨ op = 1 ∨ op = 2) (g : Nat) (hw : WantAt g (wnt op)) (va vb : Value) (a b : List Sp) (w : World) (ha : RdE elS w va a) (hb : RdE elS w vb b) :
    Calls Try.prog 45 #[va, vb, .func (.func g) #[] #[]] w (PairQ (bothR op a b) (bothE op a b) w) := by
  have HA := Lib.hid ha; have HB := Lib.hid hb
  obtain ⟨aa, ca, rfl, _, _, _⟩ := id ha
  obtain ⟨ab, cb, rfl, _, _, _⟩ := id hb
  clear ha hb
  have CK := fun v l w' (h : RdE elS w' v l) => check_any v l w' h
  obtain ⟨wl, hwl⟩ : ∃ wl, w.alloc (.cells #[.slice aa a.length ca, .slice ab b.length cb] 22) = wl := ⟨_, rfl⟩
  have b0 : Below w.heap.size w wl := by rw [← hwl]; exact (br w).alloc (Nat.le_refl _) _
  have bx : Box wl w.heap.size 22 [.slice aa a.length ca, .slice ab b.length cb] := by rw [← hwl]; exact Box.new w _ _
  have CA := Lib.hid (CK _ a wl (HA.out.below b0))
  have HB0 := Lib.hid b0
  have HBX := Lib.hid bx
  have x0 := bx.cell 0; have x1 := bx.cell 1
  simp only [List.getElem?_cons_zero, List.getElem?_cons_succ] at x0 x1
  clear b0 bx
  by_cases ca0 : chkS a = 0
  · by_cases cb0 : chkS b = 0
    · have hsw := fun ys => both_sweep op hop a b (chk_le ca0) (chk_le cb0) ys
      have hla := ((chkS_ok a).1 ca0).1
      have hlb := ((chkS_ok b).1 cb0).1
      have hE : bothE op a b = if 64 < (byL op a b).length then 2 else 0 := by unfold bothE; rw [if_pos ca0, if_pos cb0]
      have hR : bothR op a b = if 64 < (byL op a b).length then [] else byL op a b := by
        unfold bothR; rw [hE]
        by_cases c : 64 < (byL op a b).length
        · rw [if_pos c, if_pos c]; rfl
        · rw [if_neg c, if_neg c]; rfl
      obtain ⟨EE, hEE⟩ : ∃ x, bothE op a b = x := ⟨_, rfl⟩
      obtain ⟨RR, hRR⟩ : ∃ x, bothR op a b = x := ⟨_, rfl⟩
      rw [hEE] at hE ⊢
      rw [hRR] at hR ⊢
      have HE := Lib.hid hE; have HR := Lib.hid hR
      rw [ca0] at CA
      have E1 := Lib.hid (fun w' (h : RdE elS w' (.slice aa a.length ca) a) => edges_any _ a 1 0 w' h hla (by omega) (by omega))
      have E2 := Lib.hid (fun w' (h : RdE elS w' (.slice ab b.length cb) b) => edges_any _ b 0 1 w' h hlb (by omega) (by omega))
      have SW := Lib.hid (fun u w' base (h : ROwn elE w' base u (edgesOf 1 0 a ++ edgesOf 0 1 b)) (hb : base ≤ w'.heap.size) => (sweep_own u base g (wnt op) _ w' h (by rw [List.length_append, edges_len, edges_len]; omega) (fun e he => (List.mem_append.1 he).elim (fun h => small_edges 1 0 (by omega) (by omega) a e h) (fun h => small_edges 0 1 (by omega) (by omega) b e h)) hw hb).mono (R' := fun e w2 => ∃ u2, e = .returned u2 ∧ ROwn elS w2 base u2 (byL op a b) ∧ Below base w' w2) (fun e w2 hx => by obtain ⟨u2, ys, g1, g2, g3, g4, g5⟩ := hx; exact ⟨u2, g1, by rw [hsw ys g2 g3] at g4; exact g4, g5⟩))
      have L1 : RowKit.Hid ((edgesOf 1 0 a).length ≤ 128) := Lib.hid (by rw [edges_len]; omega)
      have L2 : RowKit.Hid ((edgesOf 0 1 b).length ≤ 128) := Lib.hid (by rw [edges_len]; omega)
      have CB := Lib.hid (fun w' (h : RdE elS w' (.slice ab b.length cb) b) => CK _ b w' h)
      rw [cb0] at CB
      clear hE hR hEE hRR hsw CK ca0 cb0
      generalize byL op a b = res at *
      generalize edgesOf 1 0 a = ea at *; generalize edgesOf 0 1 b = eb at *
      go_enter Try.func45, Try.ntmps45
      go_wp2_with fail
      refine wp_loop_rounds 3 ?_
      rw [rounds_succ]
      go_wp2_with fail
      refine CA.out.mono ?_
      rintro en w1 ⟨rfl, b1⟩
      have y1 := (HBX.out.next b1).cell 1
      simp only [List.getElem?_cons_zero, List.getElem?_cons_succ] at y1
      have HB1 := Lib.hid (bt HB0.out b1)
      clear b1
      go_wp2
      rw [rounds_succ]
      go_wp2_with fail
      refine (CB.out _ (HB.out.below HB1.out)).mono ?_
      rintro en w2 ⟨rfl, b2⟩
      have HB2 := Lib.hid (bt HB1.out b2)
      clear b2
      go_wp2
      rw [rounds_succ]
      go_wp2_with fail
      refine (E1.out _ (HA.out.below HB2.out)).mono ?_
      rintro en w3 ⟨u1, rfl, ho1, b3⟩
      have HO1 := Lib.hid ho1; have HB3 := Lib.hid (HB2.out.trans (b3.mono HB2.out.size)); have HZ3 := Lib.hid b3.size
      clear ho1 b3
      go_wp2_with fail
      refine (E2.out _ (HB.out.below HB3.out)).mono ?_
      rintro en w4 ⟨u2, rfl, ho2, b4⟩
      have HO1' := Lib.hid (HO1.out.next b4); have HO2 := Lib.hid ho2; have HB4 := Lib.hid (HB3.out.trans (b4.mono HB3.out.size)); have HZ4 := Lib.hid b4.size
      clear ho2 b4
      go_wp2_with (at_builtin; refine appE elE rfl (.tmp 27) (.tmp 29) rfl w2.heap.size _ ea rfl HO1'.out _ eb rfl HO2.out.rd (by have := L1.out; have := L2.out; unfold maxLen; omega) (by have := L1.out; have := L2.out; show (ea.length + eb.length) * 24 ≤ _; omega) (by have := HZ3.out; have := HZ4.out; omega) ?_; intro v5 w5 ho5 hb5 hf5; have HO5 := Lib.hid ho5; have HB5 := Lib.hid hb5; clear ho5 hb5 hf5)
      have HSW := Lib.hid (SW.out v5 w5 w2.heap.size HO5.out (by have := HZ3.out; have := HZ4.out; have := HB5.out.size; omega))
      clear SW
      refine HSW.out.mono ?_
      rintro en w6 ⟨u6, rfl, ho6, b6⟩
      have hsz := HB2.out.size
      have HB6 := Lib.hid (HB4.out.trans ((HB5.out.trans b6).mono hsz))
      have HO6 := Lib.hid (ho6.base hsz)
      have hl6 := ho6.rd.len_le
      obtain ⟨a6, c6, rfl⟩ := own_shape ho6
      clear ho6 b6
      by_cases c : 64 < res.length
      · rw [if_pos c] at HE HR
        have c' : (64 : Int) < (res.length : Int) := by omega
        go_wp2
        go_ret2
        exact ⟨_, by rw [HE.out]; rfl, by rw [HR.out]; exact ROwn.nil _ _, HB6.out⟩
      · rw [if_neg c] at HE HR
        have c' : ¬ (64 : Int) < (res.length : Int) := by omega
        go_wp2
        go_ret2
        exact ⟨_, by rw [HE.out]; rfl, by rw [HR.out]; exact HO6.out, HB6.out⟩
    · have hE : bothE op a b = chkS b := by unfold bothE; rw [if_pos ca0, if_neg cb0]
      have hR : bothR op a b = [] := by unfold bothR; rw [hE, if_neg cb0]
      rw [hE, hR]
      rw [ca0] at CA
      have CB := Lib.hid (fun w' (h : RdE elS w' (.slice ab b.length cb) b) => CK _ b w' h)
      have hne : (chkS b != 0) = true := by simp [cb0]
      generalize chkS b = eb at *
      clear hE hR CK ca0
      go_enter Try.func45, Try.ntmps45
      go_wp2_with fail
      refine wp_loop_rounds 3 ?_
      rw [rounds_succ]
      go_wp2_with fail
      refine CA.out.mono ?_
      rintro en w1 ⟨rfl, b1⟩
      have y1 := (HBX.out.next b1).cell 1
      simp only [List.getElem?_cons_zero, List.getElem?_cons_succ] at y1
      have HB1 := Lib.hid (bt HB0.out b1)
      clear b1
      go_wp2
      rw [rounds_succ]
      go_wp2_with fail
      refine (CB.out _ (HB.out.below HB1.out)).mono ?_
      rintro en w2 ⟨rfl, b2⟩
      have HB2 := Lib.hid (bt HB1.out b2)
      clear b2
      go_wp2
      go_ret2
      exact ⟨_, rfl, ROwn.nil _ _, HB2.out⟩
  · have hE : bothE op a b = chkS a := by unfold bothE; rw [if_neg ca0]
    have hR : bothR op a b = [] := by unfold bothR; rw [hE, if_neg ca0]
    rw [hE, hR]
    have hne : (chkS a != 0) = true := by simp [ca0]
    generalize chkS a = eb at *
    clear hE hR CK
    go_enter Try.func45, Try.ntmps45
    go_wp2_with fail
    refine wp_loop_rounds 3 ?_
    rw [rounds_succ]
    go_wp2_with fail
    refine CA.out.mono ?_
    rintro en w1 ⟨rfl, b1⟩
    have HB1 := Lib.hid (bt HB0.out b1)
    clear b1
    go_wp2
    go_ret2
    exact ⟨_, rfl, ROwn.nil _ _, HB1.out⟩
set_option maxHeartbeats 1000000 in
theorem union_any (va vb : Value) (a b : List Sp) (w : World) (ha : RdE elS w va a) (hb : RdE elS w vb b) : Calls Try.prog 42 #[va, vb] w (PairQ (bothR 0 a b) (bothE 0 a b) w) := by
  have hc := Lib.hid (both_any 0 (by omega) 54 want_union va vb a b w ha hb)
  obtain ⟨aa, ca, rfl, _, _, _⟩ := id ha
  obtain ⟨ab, cb, rfl, _, _, _⟩ := id hb
  clear ha hb
  generalize bothR 0 a b = RR at *; generalize bothE 0 a b = EE at *
  go_enter Try.func42, Try.ntmps42
  go_wp2_with fail
  refine hc.out.mono ?_
  rintro en w1 ⟨u, rfl, ho, hb⟩
  have HO := Lib.hid ho
  have HB := Lib.hid hb
  clear ho hb
  go_wp2
  go_ret2
  exact ⟨_, rfl, HO.out, HB.out⟩
set_option maxHeartbeats 1000000 in
theorem minus_any (va vb : Value) (a b : List Sp) (w : World) (ha : RdE elS w va a) (hb : RdE elS w vb b) : Calls Try.prog 27 #[va, vb] w (PairQ (bothR 2 a b) (bothE 2 a b) w) := by
  have hc := Lib.hid (both_any 2 (by omega) 46 want_minus va vb a b w ha hb)
  obtain ⟨aa, ca, rfl, _, _, _⟩ := id ha
  obtain ⟨ab, cb, rfl, _, _, _⟩ := id hb
  clear ha hb
  generalize bothR 2 a b = RR at *; generalize bothE 2 a b = EE at *
  go_enter Try.func27, Try.ntmps27
  go_wp2_with fail
  refine hc.out.mono ?_
  rintro en w1 ⟨u, rfl, ho, hb⟩
  have HO := Lib.hid ho
  have HB := Lib.hid hb
  clear ho hb
  go_wp2
  go_ret2
  exact ⟨_, rfl, HO.out, HB.out⟩
end Sn
end Go.Proofs.Ytcgncmlldjblmaa
