/- Sets of days: the document's SpansOf and SpansBoth. -/
import Derived.Test.YtncpgfmamhjekaaSpansRef4
set_option linter.unusedSimpArgs false
set_option linter.unusedVariables false
namespace Go.Proofs.Ytncpgfmamhjekaa
open Go.RowKit
namespace Sn
theorem by_any (op : Int) (hop : op = 0 ∨ op = 1 ∨ op = 2) (va vb : Value) (a b : List Sp) (w : World) (ha : RdE elS w va a) (hb : RdE elS w vb b) (hla : a.length ≤ 64) (hlb : b.length ≤ 64) : Calls Try.prog 32 #[va, vb, .int .i64 op] w fun e w' => ∃ u, e = .returned u ∧ ROwn elS w' w.heap.size u (byL op a b) ∧ Below w.heap.size w w' := by
  rcases hop with rfl | rfl | rfl
  · exact by0_any va vb a b w ha hb hla hlb
  · exact by1_any va vb a b w ha hb hla hlb
  · exact by2_any va vb a b w ha hb hla hlb
set_option maxRecDepth 100000 in
set_option maxHeartbeats 4000000 in
theorem ofR_any (v : Value) (l : List Sp) (w : World) (h : RdE elS w v l) : Calls Try.prog 13 #[v] w (PairQ (ofR l) (ofE l) w) := by
  have hle := h.len_le
  have HV := Lib.hid h
  obtain ⟨a, cap, rfl, h1, h2, h3⟩ := h
  have H3 := Lib.hid h3; clear h3
  by_cases c0 : 64 < l.length
  · have hF : ofE l = 2 := by unfold ofE; rw [if_pos c0]
    have hG : ofR l = [] := by unfold ofR; rw [if_neg (by omega)]
    rw [hF, hG]
    have hq : (64 : Int) < (l.length : Int) := by omega
    clear hF hG c0 H3
    go_enter Try.func13, Try.ntmps13
    go_wp2
    go_ret2
    exact ⟨_, rfl, ROwn.nil _ _, br _⟩
  have hq : ¬ (64 : Int) < (l.length : Int) := by omega
  have hF : ofE l = ofL (l.drop 0) := by unfold ofE; rw [if_neg c0]; rfl
  have HF := Lib.hid hF
  clear hF
  have C2 := Lib.hid (fun w' (h : RdE elS w' (.slice a l.length cap) l) => by_any 0 (by omega) _ (.slice none 0 0) l [] w' h ⟨none, 0, rfl, Nat.le_refl _, Nat.zero_le _, fun h => by simp at h⟩ (by omega) (by simp))
  have FD := Lib.hid (fun n w => far_any n w)
  go_enter Try.func13, Try.ntmps13
  go_wp2
  go_loopw [4] (fun i wr => ∃ k : Nat, k ≤ l.length ∧ i = .int .i64 k ∧ ofE l = ofL (l.drop k) ∧ Below w.heap.size w wr) (fun i _ => l.length - (intOf i).toNat)
  case atStart => exact ⟨0, Nat.zero_le _, rfl, HF.out, br _⟩
  case round =>
    obtain ⟨k, hk, rfl, hch, hbw⟩ := hrel
    have HBW := Lib.hid hbw
    by_cases hlt : k < l.length
    · obtain ⟨g, off, rfl, hbl, hc⟩ := H3.out (by omega)
      obtain ⟨q0, q1⟩ := eS_at hc k hlt
      have d0 := (hbw.cell (p := ⟨g, off + k * 2, none⟩) hbl).trans q0
      have d1 := (hbw.cell (p := ⟨g, off + k * 2 + 1, none⟩) hbl).trans q1
      have i1 : (k : Int) < (l.length : Int) := by omega
      have i0 : (0 : Int) ≤ (k : Int) := by omega
      have hst : ofL (l.drop k) = if ¬ isN l[k] then 3 else if l[k].2 < l[k].1 then 1 else ofL (l.drop (k + 1)) := by
        rw [List.drop_eq_getElem_cons hlt]; rfl
      rw [hst] at hch
      have hfd := isN_fd l[k]
      clear hc q0 q1 hbw H3 hst C2 HV
      obtain ⟨s, hs⟩ : ∃ s, l[k] = s := ⟨_, rfl⟩
      rw [hs] at d0 d1 hch hfd
      clear hs
      obtain ⟨p, q⟩ := s
      simp only at d0 d1 hch hfd
      have F1 := Lib.hid (FD.out p)
      have F2 := Lib.hid (FD.out q)
      clear FD
      by_cases c1 : isN (p, q)
      · rw [if_neg (fun h => h c1)] at hch
        obtain ⟨f1, f2⟩ := hfd.1 c1
        rw [f1] at F1
        rw [f2] at F2
        clear hfd c1 f1 f2
        by_cases c2 : q < p
        · rw [if_pos c2] at hch
          have hG : ofR l = [] := by unfold ofR; rw [if_neg (by omega)]
          have HCH := Lib.hid hch
          have HG := Lib.hid hG
          clear hch hG
          go_wp2_with (first | (go_at_call 31; (with_reducible refine (F1.out _).mono ?_); rintro en w2 ⟨rfl, rfl⟩) | (go_at_call 31; (with_reducible refine (F2.out _).mono ?_); rintro en w3 ⟨rfl, rfl⟩))
          go_quiet (fail)
          go_wp2
          go_ret2
          exact ⟨_, by rw [HCH.out]; rfl, by rw [HG.out]; exact ROwn.nil _ _, bn HBW.out _⟩
        rw [if_neg c2] at hch
        have HCH := Lib.hid hch
        clear hch
        go_wp2_with (first | (go_at_call 31; (with_reducible refine (F1.out _).mono ?_); rintro en w2 ⟨rfl, rfl⟩) | (go_at_call 31; (with_reducible refine (F2.out _).mono ?_); rintro en w3 ⟨rfl, rfl⟩))
        go_quiet (fail)
        go_wp2
        go_roundw
        case rel => exact ⟨k + 1, by omega, by go_num, HCH.out, bn HBW.out _⟩
        case measure => simp [intOf]; omega
      · rw [if_pos c1] at hch
        have hG : ofR l = [] := by unfold ofR; rw [if_neg (by omega)]
        have HG := Lib.hid hG
        have HCH := Lib.hid hch
        have hf : fd p = true ∨ (fd p = false ∧ fd q = true) := by
          cases hp : fd p with
          | true => exact .inl rfl
          | false => cases hq : fd q with
            | true => exact .inr ⟨rfl, rfl⟩
            | false => exact absurd (hfd.2 ⟨hp, hq⟩) c1
        clear hch hfd c1 hG
        rcases hf with f1 | ⟨f1, f2⟩
        · rw [f1] at F1
          clear f1
          go_wp2_with (first | (go_at_call 31; (with_reducible refine (F1.out _).mono ?_); rintro en w2 ⟨rfl, rfl⟩) | (go_at_call 31; (with_reducible refine (F2.out _).mono ?_); rintro en w3 ⟨rfl, rfl⟩))
          go_ret2
          exact ⟨_, by rw [HCH.out]; rfl, by rw [HG.out]; exact ROwn.nil _ _, HBW.out⟩
        · rw [f1] at F1
          rw [f2] at F2
          clear f1 f2
          go_wp2_with (first | (go_at_call 31; (with_reducible refine (F1.out _).mono ?_); rintro en w2 ⟨rfl, rfl⟩) | (go_at_call 31; (with_reducible refine (F2.out _).mono ?_); rintro en w3 ⟨rfl, rfl⟩))
          go_ret2
          exact ⟨_, by rw [HCH.out]; rfl, by rw [HG.out]; exact ROwn.nil _ _, HBW.out⟩
    · have hch2 : ofE l = 0 := by rw [hch, List.drop_eq_nil_of_le (by omega)]; rfl
      have hG : ofR l = byL 0 l [] := by unfold ofR; rw [if_pos hch2]
      have D2 := Lib.hid (C2.out wr (HV.out.below hbw))
      have HCH := Lib.hid hch2
      have HG := Lib.hid hG
      clear hch hch2 H3 C2 hG HV HF FD
      generalize byL 0 l [] = res at *
      go_wp2_with fail
      refine D2.out.mono ?_
      rintro en w2 ⟨u2, rfl, ho2, b2⟩
      have HO3 := Lib.hid ho2; have HB3 := Lib.hid b2
      clear ho2 b2
      go_wp2
      go_ret2
      have hsz := HBW.out.size
      exact ⟨_, by rw [HCH.out]; rfl, by rw [HG.out]; exact HO3.out.base hsz, HBW.out.trans (HB3.out.mono hsz)⟩
set_option maxRecDepth 100000 in
set_option maxHeartbeats 4000000 in
theorem bothR_any (op : Int) (hop : op = 0 ∨ op = 1 ∨ op = 2) (va vb : Value) (a b : List Sp) (w : World) (ha : RdE elS w va a) (hb : RdE elS w vb b) : Calls Try.prog 23 #[va, vb, .int .i64 op] w (PairQ (bothR op a b) (bothE op a b) w) := by
  have HA := Lib.hid ha; have HB := Lib.hid hb
  obtain ⟨aa, ca, rfl, _, _, _⟩ := id ha
  obtain ⟨ab, cb, rfl, _, _, _⟩ := id hb
  clear ha hb
  have CA := Lib.hid (checkR_any _ a w HA.out)
  have CB := Lib.hid (fun w' (h : RdE elS w' (.slice ab b.length cb) b) => checkR_any _ b w' h)
  by_cases ca0 : chkS a = 0
  · rw [ca0] at CA
    by_cases cb0 : chkS b = 0
    · rw [cb0] at CB
      have hla := ((chkS_ok a).1 ca0).1
      have hlb := ((chkS_ok b).1 cb0).1
      have BY := Lib.hid (fun w' (h : RdE elS w' (.slice aa a.length ca) a) (h' : RdE elS w' (.slice ab b.length cb) b) => by_any op hop _ _ a b w' h h' hla hlb)
      have hE : bothE op a b = if 64 < (byL op a b).length then 2 else 0 := by unfold bothE; rw [if_pos ca0, if_pos cb0]
      have hR : bothR op a b = if 64 < (byL op a b).length then [] else byL op a b := by
        unfold bothR; rw [hE]
        by_cases c : 64 < (byL op a b).length
        · rw [if_pos c, if_pos c]; rfl
        · rw [if_neg c, if_neg c]; rfl
      obtain ⟨EE, hEE⟩ : ∃ x, bothE op a b = x := ⟨_, rfl⟩
      obtain ⟨RR, hRR⟩ : ∃ x, bothR op a b = x := ⟨_, rfl⟩
      rw [hEE] at hE ⊢
      rw [hRR] at hR ⊢
      have HE := Lib.hid hE; have HR := Lib.hid hR
      clear hE hR hEE hRR ca0 cb0
      generalize byL op a b = res at *
      go_enter Try.func23, Try.ntmps23
      go_wp2_with fail
      refine CA.out.mono ?_
      rintro en w1 ⟨rfl, b1⟩
      have HB1 := Lib.hid b1
      clear b1
      go_wp2_with fail
      refine (CB.out _ (HB.out.below HB1.out)).mono ?_
      rintro en w2 ⟨rfl, b2⟩
      have HB2 := Lib.hid (bt HB1.out b2)
      clear b2
      have HBY := Lib.hid (BY.out w2 (HA.out.below HB2.out) (HB.out.below HB2.out))
      clear BY CB CA
      go_wp2_with fail
      refine HBY.out.mono ?_
      rintro en w6 ⟨u6, rfl, ho6, b6⟩
      have hsz := HB2.out.size
      have HB6 := Lib.hid (HB2.out.trans (b6.mono hsz))
      have HO6 := Lib.hid (ho6.base hsz)
      obtain ⟨a6, c6, rfl⟩ := own_shape ho6
      clear ho6 b6
      by_cases c : 64 < res.length
      · rw [if_pos c] at HE HR
        have c' : (64 : Int) < (res.length : Int) := by omega
        go_wp2
        go_ret2
        exact ⟨_, by rw [HE.out]; rfl, by rw [HR.out]; exact ROwn.nil _ _, HB6.out⟩
      · rw [if_neg c] at HE HR
        have c' : ¬ (64 : Int) < (res.length : Int) := by omega
        go_wp2
        go_ret2
        exact ⟨_, by rw [HE.out]; rfl, by rw [HR.out]; exact HO6.out, HB6.out⟩
    · have hE : bothE op a b = chkS b := by unfold bothE; rw [if_pos ca0, if_neg cb0]
      have hR : bothR op a b = [] := by unfold bothR; rw [hE, if_neg cb0]
      rw [hE, hR]
      have hne : (chkS b == 0) = false := by simp [cb0]
      have hne2 : (chkS b != 0) = true := by simp [cb0]
      generalize chkS b = eb at *
      clear hE hR ca0
      go_enter Try.func23, Try.ntmps23
      go_wp2_with fail
      refine CA.out.mono ?_
      rintro en w1 ⟨rfl, b1⟩
      have HB1 := Lib.hid b1
      clear b1
      go_wp2_with fail
      refine (CB.out _ (HB.out.below HB1.out)).mono ?_
      rintro en w2 ⟨rfl, b2⟩
      have HB2 := Lib.hid (bt HB1.out b2)
      clear b2
      go_wp2
      go_ret2
      exact ⟨_, rfl, ROwn.nil _ _, HB2.out⟩
  · have hE : bothE op a b = chkS a := by unfold bothE; rw [if_neg ca0]
    have hR : bothR op a b = [] := by unfold bothR; rw [hE, if_neg ca0]
    rw [hE, hR]
    have hne : (chkS a == 0) = false := by simp [ca0]
    have hne2 : (chkS a != 0) = true := by simp [ca0]
    generalize chkS a = eb at *
    clear hE hR CB
    go_enter Try.func23, Try.ntmps23
    go_wp2_with fail
    refine CA.out.mono ?_
    rintro en w1 ⟨rfl, b1⟩
    have HB1 := Lib.hid b1
    clear b1
    go_wp2
    go_ret2
    exact ⟨_, rfl, ROwn.nil _ _, HB1.out⟩
end Sn
end Go.Proofs.Ytncpgfmamhjekaa
