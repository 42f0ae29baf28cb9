/- Sets of days: SpansAgain. (gen_spans8.py) -/
import Derived.Test.YtncpgfmamhjekaaSpansLaws
import Derived.Test.YtncpgfmamhjekaaSpansPlain3
set_option linter.unusedSimpArgs false
set_option linter.unusedVariables false
namespace Go.Proofs.Ytncpgfmamhjekaa
open Go.RowKit
namespace Sn
set_option maxRecDepth 100000 in
set_option maxHeartbeats 16000000 in
theorem again_walk (v : Value) (l : List Sp) (i at' : Int) (w : World) (h : RdE elS w v l) : Calls Try.prog 6 #[v, .int .i64 i, .int .i64 at'] w (BoolQ true w) := by
  have HL := Lib.hid h
  have C1 := Lib.hid (fun v w h => of_any v l w h)
  have CB := Lib.hid begun_any
  obtain ⟨a, cap, rfl, _, _, h3⟩ := h
  have H3 := Lib.hid h3
  clear h3
  by_cases he : ofE l = 0
  case neg =>
    have hr : ofR l = [] := by unfold ofR; rw [if_neg he]
    rw [hr] at C1
    have hne : (ofE l != 0) = true := by simp [he]
    generalize ofE l = E at *
    clear hr H3
    go_enter Try.func6, Try.ntmps6
    go_wp2_with fail
    refine (C1.out _ _ HL.out).mono ?_
    rintro en w1 ⟨u1, rfl, o1, b1⟩
    have H_1 := Lib.hid (bt (br w) b1)
    have RL_1 := Lib.hid (HL.out.below b1)
    obtain ⟨a1, c1, f1⟩ := own_shape o1
    subst f1
    have RO1 := Lib.hid o1.rd
    clear o1
    go_wp2_with fail
    refine (CB.out _).mono ?_
    rintro en w2 ⟨rfl, b2⟩
    have H_2 := Lib.hid (bt H_1.out b2)
    have RL_2 := Lib.hid (RL_1.out.below b2)
    have RA_2 := Lib.hid (RO1.out.below b2)
    clear H_1 RL_1 RO1
    go_wp2
    go_ret
    exact ⟨by first | rfl | (simp; done), H_2.out⟩
  obtain ⟨e1, e2, e3⟩ := of_again he
  have C2 := Lib.hid (fun v w h => of_any v (ofR l) w h)
  have C3 := Lib.hid (fun v w h => check_any v (ofR l) w h)
  have S1 := Lib.hid (fun v u w h g => same_any v u (ofR l) w h g)
  have C4 := Lib.hid (fun v w h => of_any v (cutM l i at' l.length) w h)
  have CT := Lib.hid (@cut_same l i at' he)
  have HLE := Lib.hid ((ofE_ok l).1 he).1
  have CML := Lib.hid (cutM_len l i at')
  rw [e1, e2] at C2; rw [e3] at C3; rw [he] at C1
  clear e1 e2 e3 he
  generalize ofR l = R at *
  go_enter Try.func6, Try.ntmps6
  go_wp2_with fail
  refine (C1.out _ _ HL.out).mono ?_
  rintro en w1 ⟨u1, rfl, o1, b1⟩
  have H_1 := Lib.hid (bt (br w) b1)
  have RL_1 := Lib.hid (HL.out.below b1)
  obtain ⟨a1, c1, f1⟩ := own_shape o1
  subst f1
  have RO1 := Lib.hid o1.rd
  clear o1
  go_wp2_with fail
  refine (CB.out _).mono ?_
  rintro en w2 ⟨rfl, b2⟩
  have H_2 := Lib.hid (bt H_1.out b2)
  have RL_2 := Lib.hid (RL_1.out.below b2)
  have RA_2 := Lib.hid (RO1.out.below b2)
  clear H_1 RL_1 RO1
  go_wp2_with fail
  refine (C2.out _ _ RA_2.out).mono ?_
  rintro en w3 ⟨u3, rfl, o3, b3⟩
  have H_3 := Lib.hid (bt H_2.out b3)
  have RL_3 := Lib.hid (RL_2.out.below b3)
  have RA_3 := Lib.hid (RA_2.out.below b3)
  clear H_2 RL_2 RA_2
  have RO3 := Lib.hid o3.rd
  clear o3
  go_wp2_with fail
  refine (S1.out _ _ _ RA_3.out RO3.out).mono ?_
  rintro en w4 ⟨rfl, b4⟩
  have H_4 := Lib.hid (bt H_3.out b4)
  have RL_4 := Lib.hid (RL_3.out.below b4)
  have RA_4 := Lib.hid (RA_3.out.below b4)
  have RB_4 := Lib.hid (RO3.out.below b4)
  clear H_3 RL_3 RA_3 RO3
  clear RB_4
  go_wp2_with fail
  refine (C3.out _ _ RA_4.out).mono ?_
  rintro en w5 ⟨rfl, b5⟩
  have H_5 := Lib.hid (bt H_4.out b5)
  have RL_5 := Lib.hid (RL_4.out.below b5)
  have RA_5 := Lib.hid (RA_4.out.below b5)
  clear H_4 RL_4 RA_4
  by_cases ci : i < 0
  case pos =>
    go_wp2
    go_ret
    exact ⟨by first | rfl | (simp; done), H_5.out⟩
  by_cases cj : (l.length : Int) ≤ i
  case pos =>
    go_wp2
    go_ret
    exact ⟨by first | rfl | (simp; done), H_5.out⟩
  obtain ⟨ik, rfl⟩ : ∃ ik : Nat, i = (ik : Int) := ⟨i.toNat, by omega⟩
  have hik : ik < l.length := by omega
  obtain ⟨g, off, rfl, hbl, hc⟩ := H3.out (by omega)
  have HC := Lib.hid hc
  obtain ⟨q0, q1⟩ := eS_at hc ik hik
  have d0 := (H_5.out.cell (p := ⟨g, off + ik * 2, none⟩) hbl).trans q0
  have d1 := (H_5.out.cell (p := ⟨g, off + ik * 2 + 1, none⟩) hbl).trans q1
  have CT2 := Lib.hid (fun (h64 : l.length ≠ 64) (g1 : l[ik].1 ≤ at') (g2 : at' ≤ l[ik].2) => CT.out h64 (fun k hk e => by
    have e2 : k = ik := by omega
    subst e2; exact ⟨g1, g2⟩))
  obtain ⟨p, hp⟩ : ∃ p, l[ik].1 = p := ⟨_, rfl⟩
  obtain ⟨q, hq⟩ : ∃ q, l[ik].2 = q := ⟨_, rfl⟩
  rw [hp] at d0 CT2; rw [hq] at d1 CT2
  have HP := Lib.hid hp; have HQ := Lib.hid hq
  clear hc q0 q1 hp hq H3 CT
  have i1 : (ik : Int) < (l.length : Int) := by omega
  have i0 : (0 : Int) ≤ (ik : Int) := by omega
  by_cases c1 : at' < p
  case pos =>
    go_wp2
    go_ret
    exact ⟨by first | rfl | (simp; done), H_5.out⟩
  by_cases c2 : q < at'
  case pos =>
    go_wp2
    go_ret
    exact ⟨by first | rfl | (simp; done), H_5.out⟩
  by_cases c3 : l.length = 64
  case pos =>
    have hq64 : ((l.length : Int) == 64) = true := by simp; omega
    go_wp2
    go_ret
    exact ⟨by first | rfl | (simp; done), H_5.out⟩
  have hq64 : ((l.length : Int) == 64) = false := beq_eq_false_iff_ne.2 (by omega)
  have HCT := CT2.out c3 (by omega) (by omega)
  rw [HCT.1, HCT.2] at C4
  clear CT2 HCT
  have SP := Lib.hid span_any
  have hwl : IntKind.i64.wrap ((l.length : Int) - 1) = (l.length : Int) - 1 := IntWalk.i64_in _ (by have := HLE.out; omega)
  have hle64 := HLE.out
  have HBQ := Lib.hid (br w5)
  have hd0 : decide ((ik : Int) < 0) = false := decide_eq_false ci
  have hd3 : decide (l.length ≤ ik) = false := decide_eq_false (by omega)
  have hd4 : decide ((l.length : Int) ≤ (ik : Int)) = false := decide_eq_false cj
  have hd1 : decide (at' < p) = false := decide_eq_false c1
  have hd2 : decide (q < at') = false := decide_eq_false c2
  go_wp2
  clear d0 d1
  go_loopw [11, 12] (fun c k wr => ∃ m : Nat, m ≤ l.length ∧ k = .int .i64 ((l.length : Int) - 1 - m) ∧ ROwn elS wr w5.heap.size c (cutM l ik at' m) ∧ Below w5.heap.size w5 wr) (fun _ k _ => (intOf k + 1).toNat)
  case atStart => exact ⟨0, Nat.zero_le _, by simp, ROwn.nil _ _, HBQ.out⟩
  case round =>
    obtain ⟨m, hm, rfl, hown, hbw⟩ := hrel
    have HBW := Lib.hid hbw; have HOWN := Lib.hid hown
    by_cases hlt : m < l.length
    · obtain ⟨kk, hkk⟩ : ∃ kk, kk + m + 1 = l.length := ⟨l.length - 1 - m, by omega⟩
      have hki : (l.length : Int) - 1 - m = (kk : Int) := by omega
      have hkn : l.length - 1 - m = kk := by omega
      have hkl : kk < l.length := by omega
      have HCM : RowKit.Hid (cutM l ik at' (m + 1) = cutM l ik at' m ++ piece l ik at' kk) := Lib.hid (by rw [cutM, hkn])
      have hln := CML.out m hm
      have HLN : RowKit.Hid ((cutM l ik at' m).length ≤ 65) := Lib.hid (by split at hln <;> omega)
      have HN2 : RowKit.Hid ((l.length : Int) - 1 - ((m + 1 : Nat) : Int) = (kk : Int) - 1) := Lib.hid (by omega)
      have hwk : IntKind.i64.wrap ((kk : Int) - 1) = (kk : Int) - 1 := IntWalk.i64_in _ (by omega)
      have hgd : l.getD kk (0, 0) = l[kk] := by simp [List.getD, hkl]
      obtain ⟨q0, q1⟩ := eS_at HC.out kk hkl
      have QQ0 := Lib.hid (((H_5.out.cell (p := ⟨g, off + kk * 2, none⟩) hbl).trans q0)); have QQ1 := Lib.hid (((H_5.out.cell (p := ⟨g, off + kk * 2 + 1, none⟩) hbl).trans q1))
      have hg5 : g < w5.heap.size := by have := H_5.out.size; omega
      have d0 := (hbw.cell (p := ⟨g, off + kk * 2, none⟩) hg5).trans QQ0.out
      have d1 := (hbw.cell (p := ⟨g, off + kk * 2 + 1, none⟩) hg5).trans QQ1.out
      have j1 : (kk : Int) < (l.length : Int) := by omega
      have j0 : (0 : Int) ≤ (kk : Int) := by omega
      rw [hki]
      generalize cutM l ik at' m = cm at *
      clear hln hkn q0 q1 hown hbw
      by_cases hki2 : kk = ik
      · have HPC : RowKit.Hid (piece l ik at' kk = [(at', q), (p, at')]) := Lib.hid (by
          unfold piece; rw [if_pos (by omega), hgd]; subst hki2; rw [HP.out, HQ.out])
        subst hki2
        rw [HP.out] at d0 QQ0; rw [HQ.out] at d1 QQ1
        have hbe : ((kk : Int) == (kk : Int)) = true := by simp
        clear hgd
        go_wp2_with fail
        have e0 : wr.drew.cell? ⟨g, off + kk * 2, none⟩ = some (.int .i64 p) := d0
        have e1 : wr.drew.cell? ⟨g, off + kk * 2 + 1, none⟩ = some (.int .i64 q) := d1
        have HOd : RowKit.Hid (ROwn elS wr.drew w5.heap.size u11 cm) := Lib.hid (HOWN.out.next (bn (br wr) 1))
        have HBd : RowKit.Hid (Below w5.heap.size w5 wr.drew) := Lib.hid (bn HBW.out 1)
        have hzd : w5.heap.size ≤ wr.drew.heap.size := HBd.out.size
        go_region_held3 (fun w' => w'.cell? ⟨g, off + kk * 2, none⟩ = some (.int .i64 p) ∧ w'.cell? ⟨g, off + kk * 2 + 1, none⟩ = some (.int .i64 q))
          (first | exact ⟨f0, f1⟩ | (go_split_ands; exact ⟨f0, f1⟩) | exact ⟨kp b7 (kp b6 e0), kp b7 (kp b6 e1)⟩ | (go_split_ands; exact ⟨kp b7 (kp b6 e0), kp b7 (kp b6 e1)⟩) | exact ⟨kp b6 e0, kp b6 e1⟩ | (go_split_ands; exact ⟨kp b6 e0, kp b6 e1⟩) | go_keep | fail)
          (first
            | (go_at_call 24; (with_reducible refine (SP.out at' q _).mono ?_); rintro en w6 ⟨rfl, b6⟩)
            | (go_at_call 24; (with_reducible refine (SP.out p at' _).mono ?_); rintro en w7 ⟨rfl, b7⟩)
            | ((refine stepE_app elS (by rfl) (.tmp 86) (.tmp 101) (by rfl) w5.heap.size _ cm (by rfl) (((HOd.out.next b6).next b7).next ((br w7).alloc (Nat.le_refl _) _)) _ [(at', q), (p, at')] (by rfl) (rd_lit elS [(at', q), (p, at')] w7 _ _ w7.heap.size rfl (by simp [maxLen])) (by have := HLN.out; show cm.length + 2 ≤ _; unfold maxLen; omega) (by have := HLN.out; show (cm.length + 2) * 16 ≤ _; omega) (by have := b6.size; have := b7.size; simp; omega) ?_); intro v9 w9 ho9 hb9; intro _; have hb10 : Below w5.heap.size w5 w9 := (((HBd.out.trans (b6.mono hzd)).trans (b7.mono (by have := b6.size; omega))).alloc (by have := b6.size; have := b7.size; omega) _).trans hb9; have f0 := (hb10.cell (p := ⟨g, off + kk * 2, none⟩) hg5).trans QQ0.out; have f1 := (hb10.cell (p := ⟨g, off + kk * 2 + 1, none⟩) hg5).trans QQ1.out)
            | fail)
        go_wp2_with fail
        go_roundw
        case rel => exact ⟨m + 1, by omega, by rw [HN2.out], by rw [HCM.out, HPC.out]; exact ho9, hb10⟩
        case measure => simp [intOf]; try omega
      · have HPC : RowKit.Hid (piece l ik at' kk = [l[kk]]) := Lib.hid (by unfold piece; rw [if_neg (by omega), hgd])
        have hbe : ((kk : Int) == (ik : Int)) = false := beq_eq_false_iff_ne.2 (by omega)
        clear hgd
        generalize l[kk] = s at *
        obtain ⟨x0, x1⟩ := s
        simp only at d0 d1
        go_wp2_with (at_builtin; refine appE elS rfl (.tmp 103) (.tmp 108) rfl w5.heap.size _ cm rfl (HOWN.out.next ((br _).alloc (Nat.le_refl _) _)) _ [(x0, x1)] rfl (rd_lit elS [(x0, x1)] _ _ _ _ rfl (by simp [maxLen])) (by have := HLN.out; show cm.length + 1 ≤ _; unfold maxLen; omega) (by have := HLN.out; show (cm.length + 1) * 16 ≤ _; omega) (by have := HBW.out.size; simp; omega) ?_; intro v9 w9 ho9 hb9 hf9; have HO9 := Lib.hid ho9; have HB9 := Lib.hid ((HBW.out.alloc HBW.out.size _).trans hb9); clear ho9 hb9 hf9)
        go_roundw
        case rel => exact ⟨m + 1, by omega, by rw [HN2.out], by rw [HCM.out, HPC.out]; exact HO9.out, HB9.out⟩
        case measure => simp [intOf]; try omega
    · have em : m = l.length := by omega
      subst em
      have hz : (l.length : Int) - 1 - (l.length : Int) = -1 := by omega
      rw [hz]
      have HC4 := Lib.hid (C4.out _ wr HOWN.out.rd)
      clear C4 hown hbw
      generalize cutM l ik at' l.length = cm at *
      go_wp2_with fail
      refine HC4.out.mono ?_
      rintro en w6 ⟨u6, rfl, o6, b6⟩
      have HO6 := Lib.hid o6.rd; have HA6 := Lib.hid (RA_5.out.below (HBW.out.trans (b6.mono HBW.out.size)))
      have HB6 := Lib.hid (bt (H_5.out.trans (HBW.out.mono H_5.out.size)) b6)
      clear o6 b6
      go_wp2_with fail
      refine (S1.out _ _ _ HA6.out HO6.out).mono ?_
      rintro en w7 ⟨rfl, b7⟩
      have HB7 := Lib.hid (bt HB6.out b7)
      clear b7
      go_wp2
      go_ret
      exact ⟨by first | rfl | (simp; done), HB7.out⟩
theorem again_end (v : Value) (l : List Sp) (i at' : Int) (w : World) (h : RdE elS w v l) (_ : (Lit.int .i64 i).wf = true) (_ : (Lit.int .i64 at').wf = true) : Calls Try.prog 6 #[v, .int .i64 i, .int .i64 at'] w fun e w' => e = .returned (.bool true) ∧ Below w.heap.size w w' := again_walk v l i at' w h
end Sn
end Go.Proofs.Ytncpgfmamhjekaa
