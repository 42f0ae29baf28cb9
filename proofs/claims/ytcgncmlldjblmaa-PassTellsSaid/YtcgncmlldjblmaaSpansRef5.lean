/- Sets of days: the document's SpansOf and SpansBoth. -/
import Derived.Test.YtcgncmlldjblmaaSpansRef4
set_option linter.unusedSimpArgs false
set_option linter.unusedVariables false
namespace Go.Proofs.Ytcgncmlldjblmaa
open Go.RowKit
namespace Sn
theorem by_any (op : Int) (hop : op = 0 ∨ op = 1 ∨ op = 2) (va vb : Value) (a b : List Sp) (w : World) (ha : RdE elS w va a) (hb : RdE elS w vb b) (hla : a.length ≤ 64) (hlb : b.length ≤ 64) : Calls Try.prog 55 #[va, vb, .int .i64 op] w fun e w' => ∃ u, e = .returned u ∧ ROwn elS w' w.heap.size u (byL op a b) ∧ Below w.heap.size w w' := by
  rcases hop with rfl | rfl | rfl
  · exact by0_any va vb a b w ha hb hla hlb
  · exact by1_any va vb a b w ha hb hla hlb
  · exact by2_any va vb a b w ha hb hla hlb
set_option maxRecDepth 100000 in
set_option maxHeartbeats 4000000 in
theorem bothR_any (op : Int) (hop : op = 0 ∨ op = 1 ∨ op = 2) (va vb : Value) (a b : List Sp) (w : World) (ha : RdE elS w va a) (hb : RdE elS w vb b) : Calls Try.prog 43 #[va, vb, .int .i64 op] w (PairQ (bothR op a b) (bothE op a b) w) := by
  have HA := Lib.hid ha; have HB := Lib.hid hb
  obtain ⟨aa, ca, rfl, _, _, _⟩ := id ha
  obtain ⟨ab, cb, rfl, _, _, _⟩ := id hb
  clear ha hb
  have CA := Lib.hid (checkR_any _ a w HA.out)
  have CB := Lib.hid (fun w' (h : RdE elS w' (.slice ab b.length cb) b) => checkR_any _ b w' h)
  by_cases ca0 : chkS a = 0
  · rw [ca0] at CA
    by_cases cb0 : chkS b = 0
    · rw [cb0] at CB
      have hla := ((chkS_ok a).1 ca0).1
      have hlb := ((chkS_ok b).1 cb0).1
      have BY := Lib.hid (fun w' (h : RdE elS w' (.slice aa a.length ca) a) (h' : RdE elS w' (.slice ab b.length cb) b) => by_any op hop _ _ a b w' h h' hla hlb)
      have hE : bothE op a b = if 64 < (byL op a b).length then 2 else 0 := by unfold bothE; rw [if_pos ca0, if_pos cb0]
      have hR : bothR op a b = if 64 < (byL op a b).length then [] else byL op a b := by
        unfold bothR; rw [hE]
        by_cases c : 64 < (byL op a b).length
        · rw [if_pos c, if_pos c]; rfl
        · rw [if_neg c, if_neg c]; rfl
      obtain ⟨EE, hEE⟩ : ∃ x, bothE op a b = x := ⟨_, rfl⟩
      obtain ⟨RR, hRR⟩ : ∃ x, bothR op a b = x := ⟨_, rfl⟩
      rw [hEE] at hE ⊢
      rw [hRR] at hR ⊢
      have HE := Lib.hid hE; have HR := Lib.hid hR
      clear hE hR hEE hRR ca0 cb0
      generalize byL op a b = res at *
      go_enter Try.func43, Try.ntmps43
      go_wp2_with fail
      refine CA.out.mono ?_
      rintro en w1 ⟨rfl, b1⟩
      have HB1 := Lib.hid b1
      clear b1
      go_wp2_with fail
      refine (CB.out _ (HB.out.below HB1.out)).mono ?_
      rintro en w2 ⟨rfl, b2⟩
      have HB2 := Lib.hid (bt HB1.out b2)
      clear b2
      have HBY := Lib.hid (BY.out w2 (HA.out.below HB2.out) (HB.out.below HB2.out))
      clear BY CB CA
      go_wp2_with fail
      refine HBY.out.mono ?_
      rintro en w6 ⟨u6, rfl, ho6, b6⟩
      have hsz := HB2.out.size
      have HB6 := Lib.hid (HB2.out.trans (b6.mono hsz))
      have HO6 := Lib.hid (ho6.base hsz)
      obtain ⟨a6, c6, rfl⟩ := own_shape ho6
      clear ho6 b6
      by_cases c : 64 < res.length
      · rw [if_pos c] at HE HR
        have c' : (64 : Int) < (res.length : Int) := by omega
        go_wp2
        go_ret2
        exact ⟨_, by rw [HE.out]; rfl, by rw [HR.out]; exact ROwn.nil _ _, HB6.out⟩
      · rw [if_neg c] at HE HR
        have c' : ¬ (64 : Int) < (res.length : Int) := by omega
        go_wp2
        go_ret2
        exact ⟨_, by rw [HE.out]; rfl, by rw [HR.out]; exact HO6.out, HB6.out⟩
    · have hE : bothE op a b = chkS b := by unfold bothE; rw [if_pos ca0, if_neg cb0]
      have hR : bothR op a b = [] := by unfold bothR; rw [hE, if_neg cb0]
      rw [hE, hR]
      have hne : (chkS b == 0) = false := by simp [cb0]
      have hne2 : (chkS b != 0) = true := by simp [cb0]
      generalize chkS b = eb at *
      clear hE hR ca0
      go_enter Try.func43, Try.ntmps43
      go_wp2_with fail
      refine CA.out.mono ?_
      rintro en w1 ⟨rfl, b1⟩
      have HB1 := Lib.hid b1
      clear b1
      go_wp2_with fail
      refine (CB.out _ (HB.out.below HB1.out)).mono ?_
      rintro en w2 ⟨rfl, b2⟩
      have HB2 := Lib.hid (bt HB1.out b2)
      clear b2
      go_wp2
      go_ret2
      exact ⟨_, rfl, ROwn.nil _ _, HB2.out⟩
  · have hE : bothE op a b = chkS a := by unfold bothE; rw [if_neg ca0]
    have hR : bothR op a b = [] := by unfold bothR; rw [hE, if_neg ca0]
    rw [hE, hR]
    have hne : (chkS a == 0) = false := by simp [ca0]
    have hne2 : (chkS a != 0) = true := by simp [ca0]
    generalize chkS a = eb at *
    clear hE hR CB
    go_enter Try.func43, Try.ntmps43
    go_wp2_with fail
    refine CA.out.mono ?_
    rintro en w1 ⟨rfl, b1⟩
    have HB1 := Lib.hid b1
    clear b1
    go_wp2
    go_ret2
    exact ⟨_, rfl, ROwn.nil _ _, HB1.out⟩
end Sn
end Go.Proofs.Ytcgncmlldjblmaa
