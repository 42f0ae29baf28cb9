/- Gate: the statements AdmitOld, AdmitLatest. (gen_gate13.py) -/
import Derived.Test.YtdfdjampodkpgaaDoorGateLaw1
import Derived.Test.YtdfdjampodkpgaaDoorGatePlain2
import Derived.Test.YtdfdjampodkpgaaDoorJDrop
import Derived.Test.YtdfdjampodkpgaaDoorJEl
set_option linter.unusedSimpArgs false
set_option linter.unusedVariables false
namespace Go.Proofs.YtdfdjampodkpgaaDoor
open Go.RowKit
namespace Gt
open Sn Pa Rg Tg
set_option maxRecDepth 100000 in
set_option maxHeartbeats 1600000 in
theorem admitOld (v : Value) (eps : List Ep) (p : Ps) (d : Value) (l : List Sp) (n z : Int) (w : World) (hv : Rd 3 Rg.eE w v eps) (hd : RdE elS w d l) (hT : Sl.Tab w) :
    Calls Tryd.prog 8 #[v, aP p d, .int .i64 n, .int .i64 z] w (BoolQ true w) := by
  have HTB := Lib.hid (fun w' (hb : Below w.heap.size w w') => hT.below hb)
  have CW := Lib.hid (fun v w' h d g => write_any v eps p d l w' h g)
  have CB := Lib.hid (fun w' h => begun_any w' h)
  have CR := Lib.hid (fun d w' h => replace_any p d l w' h)
  unfold SealQ at CW
  unfold PassQ at CR
  have hq := fun h hr (a : Option Addr) (c : Nat) => old_q (eps := eps) (p := p) (l := l) h hr a c n z
  have hl := fun h (a : Option Addr) (c : Nat) => old_less (eps := eps) (p := p) (l := l) h a c z n
  have hbd := fun h => wr_bad (eps := eps) (p := p) (l := l) h
  have hsz := wr_size eps p l
  obtain ⟨⟨T, E⟩, hTE⟩ : ∃ r, wrF eps p l = r := ⟨_, rfl⟩
  rw [hTE] at CW hq hl hbd hsz
  clear hTE
  simp only at CW hq hl hbd hsz
  obtain ⟨G, hG⟩ : ∃ G, repE p l = G := ⟨_, rfl⟩
  rw [hG] at CR hq; clear hG
  have HQ := Lib.hid hq; have HLS := Lib.hid hl; have HBD := Lib.hid hbd; clear hq hl hbd
  have CA := Lib.hid (fun v u xs ys w' h1 h2 h3 => admit_any v u xs ys T n z (Nat.le_trans hsz (by decide)) w' h1 h2 h3)
  clear hsz
  have hvc := hv
  obtain ⟨id, born, a, b, ser⟩ := p
  have HV0 := Lib.hid hd
  have HR0 := Lib.hid hv
  obtain ⟨x, cap, rfl, _, _, _⟩ := hd
  clear hT
  obtain ⟨ra, rc, rfl, hrc1, hrc2, hrc3⟩ := hvc
  have HRC := Lib.hid hrc3; clear hrc3 hv
  by_cases c : E = 0
  · have hn : (E != 0) = false := by simp [c]
    obtain ⟨m, hm, hm8, hdr, _⟩ := HLS.out c ra 0
    have hadm : ∀ (aa : Option Addr) (c2 : Nat), admF (eps.eraseIdx m) [⟨⟨id, born, a, b, ser⟩, aa, c2, l⟩] T n z = 5 := fun aa c2 => by
      obtain ⟨m2, hm2, _, _, h⟩ := HLS.out c aa c2
      obtain rfl : m2 = m := by omega
      exact h
    have hlen : eps.length = m + 1 := hm
    obtain ⟨g, off, rfl, hbl, hc⟩ := HRC.out (by omega)
    have q0 := hc m (by omega) 0 _ rfl
    obtain ⟨no, hno⟩ : ∃ no, (eps[m]'(by omega)).1 = no := ⟨_, rfl⟩
    have CD := Lib.hid (fun v w' h => drop_any v eps no w' h)
    rw [hno] at hdr q0
    rw [hdr] at CD; unfold RingQ at CD
    have Q0 := Lib.hid q0; have HADM := Lib.hid hadm; have HLEN := Lib.hid hlen
    have HQ2 := Lib.hid (fun hr => HQ.out c hr)
    clear hno hdr q0 hadm hm hc HLS HQ HBD
    have hm1 : (eps.length : Int) - 1 = (m : Int) := by omega
    have i1 : (m : Int) < (eps.length : Int) := by omega
    have i8 : (eps.length : Int) ≤ 8 := by omega
    clear hlen
    subst c
    by_cases cg : G = 0
    · have hg : (G == 0) = true := by simp [cg]
      have hq4 := HQ2.out cg; have HQ4 := Lib.hid hq4; clear hq4
      rw [if_pos cg, if_pos cg] at CR
      subst cg
      try simp only at CR
      skip
      have V_w := Lib.hid (HV0.out)
      have R_w := Lib.hid (HR0.out)
      have HB_wa := Lib.hid ((br w).alloc (Nat.le_refl _) (.cells #[.int .i64 id, .int .i64 born, .int .i64 a, .int .i64 b, .int .i64 ser, .slice x l.length cap] 25))
      have V_wa := Lib.hid (Rd.below V_w.out ((br _).alloc (Nat.le_refl _) (.cells #[.int .i64 id, .int .i64 born, .int .i64 a, .int .i64 b, .int .i64 ser, .slice x l.length cap] 25)))
      have R_wa := Lib.hid (Rd.below R_w.out ((br _).alloc (Nat.le_refl _) (.cells #[.int .i64 id, .int .i64 born, .int .i64 a, .int .i64 b, .int .i64 ser, .slice x l.length cap] 25)))
      have P_wa := Lib.hid (Box.new w 25 [.int .i64 id, .int .i64 born, .int .i64 a, .int .i64 b, .int .i64 ser, .slice x l.length cap])
      try clear P_w
      try clear V_w
      try clear R_w
      go_enter Tryd.func8, Tryd.ntmps8
      have h_P := P_wa.out
      have l_Pwa := h_P.lt
      have Pwa_0 := h_P.cell 0; have Pwa_1 := h_P.cell 1; have Pwa_2 := h_P.cell 2; have Pwa_3 := h_P.cell 3; have Pwa_4 := h_P.cell 4; have Pwa_5 := h_P.cell 5
      simp only [List.getElem?_cons_zero, List.getElem?_cons_succ] at Pwa_0 Pwa_1 Pwa_2 Pwa_3 Pwa_4 Pwa_5
      clear h_P
      go_wp2_with fail
      refine (CW.out _ _ R_wa.out _ V_wa.out).mono ?_
      rintro en_w1 w1 ⟨rfl, b_w1⟩
      have HB_w1 := Lib.hid (bt HB_wa.out b_w1)
      have P_w1 := Lib.hid (P_wa.out.next b_w1)
      have V_w1 := Lib.hid (Rd.below V_wa.out b_w1)
      have R_w1 := Lib.hid (Rd.below R_wa.out b_w1)
      try clear l_Pwa
      try clear Pwa_0
      try clear Pwa_1
      try clear Pwa_2
      try clear Pwa_3
      try clear Pwa_4
      try clear Pwa_5
      try clear P_wa
      try clear V_wa
      try clear R_wa
      try clear HB_wa
      try clear b_w1
      go_wp2_with fail
      refine (CB.out _ (HTB.out _ HB_w1.out)).mono ?_
      rintro en_w2 w2 ⟨rfl, b_w2⟩
      have HB_w2 := Lib.hid (bt HB_w1.out b_w2)
      have P_w2 := Lib.hid (P_w1.out.next b_w2)
      have V_w2 := Lib.hid (Rd.below V_w1.out b_w2)
      have R_w2 := Lib.hid (Rd.below R_w1.out b_w2)
      try clear P_w1
      try clear V_w1
      try clear R_w1
      try clear HB_w1
      try clear b_w2
      have h_P := P_w2.out
      have l_Pw2 := h_P.lt
      have Pw2_0 := h_P.cell 0; have Pw2_1 := h_P.cell 1; have Pw2_2 := h_P.cell 2; have Pw2_3 := h_P.cell 3; have Pw2_4 := h_P.cell 4; have Pw2_5 := h_P.cell 5
      simp only [List.getElem?_cons_zero, List.getElem?_cons_succ] at Pw2_0 Pw2_1 Pw2_2 Pw2_3 Pw2_4 Pw2_5
      clear h_P
      go_wp2_with fail
      refine (CR.out _ _ V_w2.out).mono ?_
      rintro en_w3 w3 ⟨d3, rfl, hk3, _, b_w3⟩
      have HB_w3 := Lib.hid (bt HB_w2.out b_w3)
      have P_w3 := Lib.hid (P_w2.out.next b_w3)
      have V_w3 := Lib.hid (Rd.below V_w2.out b_w3)
      have R_w3 := Lib.hid (Rd.below R_w2.out b_w3)
      try clear l_Pw2
      try clear Pw2_0
      try clear Pw2_1
      try clear Pw2_2
      try clear Pw2_3
      try clear Pw2_4
      try clear Pw2_5
      try clear P_w2
      try clear V_w2
      try clear R_w2
      try clear HB_w2
      try clear b_w3
      try simp only at hk3
      have HK3 := Lib.hid hk3; obtain ⟨y3, c3, rfl, _, _, _⟩ := hk3
      have HB_w3a := Lib.hid (HB_w3.out.alloc HB_w3.out.size (.cells #[.int .i64 id, .int .i64 born, .int .i64 a, .int .i64 b, .int .i64 (ser + 1), .slice y3 l.length c3] 25))
      have P_w3a := Lib.hid (P_w3.out.alloc (.cells #[.int .i64 id, .int .i64 born, .int .i64 a, .int .i64 b, .int .i64 (ser + 1), .slice y3 l.length c3] 25))
      have V_w3a := Lib.hid (Rd.below V_w3.out ((br _).alloc (Nat.le_refl _) (.cells #[.int .i64 id, .int .i64 born, .int .i64 a, .int .i64 b, .int .i64 (ser + 1), .slice y3 l.length c3] 25)))
      have R_w3a := Lib.hid (Rd.below R_w3.out ((br _).alloc (Nat.le_refl _) (.cells #[.int .i64 id, .int .i64 born, .int .i64 a, .int .i64 b, .int .i64 (ser + 1), .slice y3 l.length c3] 25)))
      have KV_w3a := Lib.hid (Rd.below HK3.out ((br _).alloc (Nat.le_refl _) (.cells #[.int .i64 id, .int .i64 born, .int .i64 a, .int .i64 b, .int .i64 (ser + 1), .slice y3 l.length c3] 25)))
      have Q_w3a := Lib.hid (Box.new w3 25 [.int .i64 id, .int .i64 born, .int .i64 a, .int .i64 b, .int .i64 (ser + 1), .slice y3 l.length c3])
      try clear P_w3
      try clear V_w3
      try clear R_w3
      try clear HB_w3
      have h_Q := Q_w3a.out
      have l_Qw3a := h_Q.lt
      have Qw3a_0 := h_Q.cell 0; have Qw3a_1 := h_Q.cell 1; have Qw3a_2 := h_Q.cell 2; have Qw3a_3 := h_Q.cell 3; have Qw3a_4 := h_Q.cell 4; have Qw3a_5 := h_Q.cell 5
      simp only [List.getElem?_cons_zero, List.getElem?_cons_succ] at Qw3a_0 Qw3a_1 Qw3a_2 Qw3a_3 Qw3a_4 Qw3a_5
      clear h_Q
      have hx4 := rdX_lit ⟨⟨id, born, a, b, ser + 1⟩, y3, c3, l⟩ (w3.alloc (.cells #[.int .i64 id, .int .i64 born, .int .i64 a, .int .i64 b, .int .i64 (ser + 1), .slice y3 l.length c3] 25)) KV_w3a.out
      rw [asz] at hx4
      have HX4 := Lib.hid hx4; clear hx4
      have HB_w3aa := Lib.hid (HB_w3a.out.alloc HB_w3a.out.size (.cells #[.int .i64 id, .int .i64 born, .int .i64 a, .int .i64 b, .int .i64 (ser + 1), .slice y3 l.length c3] 25))
      have P_w3aa := Lib.hid (P_w3a.out.alloc (.cells #[.int .i64 id, .int .i64 born, .int .i64 a, .int .i64 b, .int .i64 (ser + 1), .slice y3 l.length c3] 25))
      have Q_w3aa := Lib.hid (Q_w3a.out.alloc (.cells #[.int .i64 id, .int .i64 born, .int .i64 a, .int .i64 b, .int .i64 (ser + 1), .slice y3 l.length c3] 25))
      have V_w3aa := Lib.hid (Rd.below V_w3a.out ((br _).alloc (Nat.le_refl _) (.cells #[.int .i64 id, .int .i64 born, .int .i64 a, .int .i64 b, .int .i64 (ser + 1), .slice y3 l.length c3] 25)))
      have R_w3aa := Lib.hid (Rd.below R_w3a.out ((br _).alloc (Nat.le_refl _) (.cells #[.int .i64 id, .int .i64 born, .int .i64 a, .int .i64 b, .int .i64 (ser + 1), .slice y3 l.length c3] 25)))
      have KV_w3aa := Lib.hid (Rd.below KV_w3a.out ((br _).alloc (Nat.le_refl _) (.cells #[.int .i64 id, .int .i64 born, .int .i64 a, .int .i64 b, .int .i64 (ser + 1), .slice y3 l.length c3] 25)))
      try clear P_w3a
      try clear Q_w3a
      try clear V_w3a
      try clear R_w3a
      try clear KV_w3a
      try clear HB_w3a
      go_wp2_with fail
      refine (CA.out _ _ eps [⟨⟨id, born, a, b, ser + 1⟩, y3, c3, l⟩] _ ?_ ?_ ?_).mono ?_
      · exact R_w3aa.out
      · exact HX4.out
      · exact HTB.out _ HB_w3aa.out
      rintro en_w5 w5 ⟨rfl, b_w5⟩
      have HB_w5 := Lib.hid (bt HB_w3aa.out b_w5)
      have P_w5 := Lib.hid (P_w3aa.out.next b_w5)
      have Q_w5 := Lib.hid (Q_w3aa.out.next b_w5)
      have V_w5 := Lib.hid (Rd.below V_w3aa.out b_w5)
      have R_w5 := Lib.hid (Rd.below R_w3aa.out b_w5)
      have KV_w5 := Lib.hid (Rd.below KV_w3aa.out b_w5)
      try clear l_Qw3a
      try clear Qw3a_0
      try clear Qw3a_1
      try clear Qw3a_2
      try clear Qw3a_3
      try clear Qw3a_4
      try clear Qw3a_5
      try clear P_w3aa
      try clear Q_w3aa
      try clear V_w3aa
      try clear R_w3aa
      try clear KV_w3aa
      try clear HB_w3aa
      try clear b_w5
      have h4 := HQ4.out y3 c3
      try simp only [repP] at h4
      rw [h4]; clear h4
      have k0 : w5.cell? ⟨g, off + m * 3, none⟩ = some (.int .i64 no) := (HB_w5.out.cell (p := ⟨g, off + m * 3, none⟩) hbl).trans Q0.out
      have i0 : (0 : Int) ≤ (m : Int) := by omega
      go_wp2_with fail
      refine (CD.out _ _ R_w5.out).mono ?_
      rintro en_w6 w6 ⟨v6, rfl, hr6, b_w6⟩
      have HR6 := Lib.hid hr6; clear k0 hr6
      have HB_w6 := Lib.hid (bt HB_w5.out b_w6)
      have P_w6 := Lib.hid (P_w5.out.next b_w6)
      have Q_w6 := Lib.hid (Q_w5.out.next b_w6)
      have V_w6 := Lib.hid (Rd.below V_w5.out b_w6)
      have R_w6 := Lib.hid (Rd.below R_w5.out b_w6)
      have KV_w6 := Lib.hid (Rd.below KV_w5.out b_w6)
      try clear P_w5
      try clear Q_w5
      try clear V_w5
      try clear R_w5
      try clear KV_w5
      try clear HB_w5
      try clear b_w6
      have h_P := P_w6.out
      have l_Pw6 := h_P.lt
      have Pw6_0 := h_P.cell 0; have Pw6_1 := h_P.cell 1; have Pw6_2 := h_P.cell 2; have Pw6_3 := h_P.cell 3; have Pw6_4 := h_P.cell 4; have Pw6_5 := h_P.cell 5
      simp only [List.getElem?_cons_zero, List.getElem?_cons_succ] at Pw6_0 Pw6_1 Pw6_2 Pw6_3 Pw6_4 Pw6_5
      clear h_P
      have hx6 := rdX_lit ⟨⟨id, born, a, b, ser⟩, x, cap, l⟩ w6 V_w6.out
      have HX6 := Lib.hid hx6; clear hx6
      have HR6a := Lib.hid (Rd.below HR6.out ((br _).alloc (Nat.le_refl _) (.cells #[.int .i64 id, .int .i64 born, .int .i64 a, .int .i64 b, .int .i64 ser, .slice x l.length cap] 25)))
      have HB_w6a := Lib.hid (HB_w6.out.alloc HB_w6.out.size (.cells #[.int .i64 id, .int .i64 born, .int .i64 a, .int .i64 b, .int .i64 ser, .slice x l.length cap] 25))
      have P_w6a := Lib.hid (P_w6.out.alloc (.cells #[.int .i64 id, .int .i64 born, .int .i64 a, .int .i64 b, .int .i64 ser, .slice x l.length cap] 25))
      have Q_w6a := Lib.hid (Q_w6.out.alloc (.cells #[.int .i64 id, .int .i64 born, .int .i64 a, .int .i64 b, .int .i64 ser, .slice x l.length cap] 25))
      have V_w6a := Lib.hid (Rd.below V_w6.out ((br _).alloc (Nat.le_refl _) (.cells #[.int .i64 id, .int .i64 born, .int .i64 a, .int .i64 b, .int .i64 ser, .slice x l.length cap] 25)))
      have R_w6a := Lib.hid (Rd.below R_w6.out ((br _).alloc (Nat.le_refl _) (.cells #[.int .i64 id, .int .i64 born, .int .i64 a, .int .i64 b, .int .i64 ser, .slice x l.length cap] 25)))
      have KV_w6a := Lib.hid (Rd.below KV_w6.out ((br _).alloc (Nat.le_refl _) (.cells #[.int .i64 id, .int .i64 born, .int .i64 a, .int .i64 b, .int .i64 ser, .slice x l.length cap] 25)))
      try clear P_w6
      try clear Q_w6
      try clear V_w6
      try clear R_w6
      try clear KV_w6
      try clear HB_w6
      go_wp2_with fail
      refine (CA.out _ _ (eps.eraseIdx m) [⟨⟨id, born, a, b, ser⟩, x, cap, l⟩] _ ?_ ?_ ?_).mono ?_
      · exact HR6a.out
      · exact HX6.out
      · exact HTB.out _ HB_w6a.out
      rintro en_w7 w7 ⟨rfl, b_w7⟩
      have HB_w7 := Lib.hid (bt HB_w6a.out b_w7)
      have P_w7 := Lib.hid (P_w6a.out.next b_w7)
      have Q_w7 := Lib.hid (Q_w6a.out.next b_w7)
      have V_w7 := Lib.hid (Rd.below V_w6a.out b_w7)
      have R_w7 := Lib.hid (Rd.below R_w6a.out b_w7)
      have KV_w7 := Lib.hid (Rd.below KV_w6a.out b_w7)
      try clear l_Pw6
      try clear Pw6_0
      try clear Pw6_1
      try clear Pw6_2
      try clear Pw6_3
      try clear Pw6_4
      try clear Pw6_5
      try clear P_w6a
      try clear Q_w6a
      try clear V_w6a
      try clear R_w6a
      try clear KV_w6a
      try clear HB_w6a
      try clear b_w7
      rw [HADM.out x cap]
      go_wp2
      go_ret
      exact ⟨by first | rfl | (simp; done), HB_w7.out⟩
    · have hg : (G == 0) = false := by simp [cg]
      rw [if_neg cg, if_neg cg] at CR
      try simp only at CR
      skip
      have V_w := Lib.hid (HV0.out)
      have R_w := Lib.hid (HR0.out)
      have HB_wa := Lib.hid ((br w).alloc (Nat.le_refl _) (.cells #[.int .i64 id, .int .i64 born, .int .i64 a, .int .i64 b, .int .i64 ser, .slice x l.length cap] 25))
      have V_wa := Lib.hid (Rd.below V_w.out ((br _).alloc (Nat.le_refl _) (.cells #[.int .i64 id, .int .i64 born, .int .i64 a, .int .i64 b, .int .i64 ser, .slice x l.length cap] 25)))
      have R_wa := Lib.hid (Rd.below R_w.out ((br _).alloc (Nat.le_refl _) (.cells #[.int .i64 id, .int .i64 born, .int .i64 a, .int .i64 b, .int .i64 ser, .slice x l.length cap] 25)))
      have P_wa := Lib.hid (Box.new w 25 [.int .i64 id, .int .i64 born, .int .i64 a, .int .i64 b, .int .i64 ser, .slice x l.length cap])
      try clear P_w
      try clear V_w
      try clear R_w
      go_enter Tryd.func8, Tryd.ntmps8
      have h_P := P_wa.out
      have l_Pwa := h_P.lt
      have Pwa_0 := h_P.cell 0; have Pwa_1 := h_P.cell 1; have Pwa_2 := h_P.cell 2; have Pwa_3 := h_P.cell 3; have Pwa_4 := h_P.cell 4; have Pwa_5 := h_P.cell 5
      simp only [List.getElem?_cons_zero, List.getElem?_cons_succ] at Pwa_0 Pwa_1 Pwa_2 Pwa_3 Pwa_4 Pwa_5
      clear h_P
      go_wp2_with fail
      refine (CW.out _ _ R_wa.out _ V_wa.out).mono ?_
      rintro en_w1 w1 ⟨rfl, b_w1⟩
      have HB_w1 := Lib.hid (bt HB_wa.out b_w1)
      have P_w1 := Lib.hid (P_wa.out.next b_w1)
      have V_w1 := Lib.hid (Rd.below V_wa.out b_w1)
      have R_w1 := Lib.hid (Rd.below R_wa.out b_w1)
      try clear l_Pwa
      try clear Pwa_0
      try clear Pwa_1
      try clear Pwa_2
      try clear Pwa_3
      try clear Pwa_4
      try clear Pwa_5
      try clear P_wa
      try clear V_wa
      try clear R_wa
      try clear HB_wa
      try clear b_w1
      go_wp2_with fail
      refine (CB.out _ (HTB.out _ HB_w1.out)).mono ?_
      rintro en_w2 w2 ⟨rfl, b_w2⟩
      have HB_w2 := Lib.hid (bt HB_w1.out b_w2)
      have P_w2 := Lib.hid (P_w1.out.next b_w2)
      have V_w2 := Lib.hid (Rd.below V_w1.out b_w2)
      have R_w2 := Lib.hid (Rd.below R_w1.out b_w2)
      try clear P_w1
      try clear V_w1
      try clear R_w1
      try clear HB_w1
      try clear b_w2
      have h_P := P_w2.out
      have l_Pw2 := h_P.lt
      have Pw2_0 := h_P.cell 0; have Pw2_1 := h_P.cell 1; have Pw2_2 := h_P.cell 2; have Pw2_3 := h_P.cell 3; have Pw2_4 := h_P.cell 4; have Pw2_5 := h_P.cell 5
      simp only [List.getElem?_cons_zero, List.getElem?_cons_succ] at Pw2_0 Pw2_1 Pw2_2 Pw2_3 Pw2_4 Pw2_5
      clear h_P
      go_wp2_with fail
      refine (CR.out _ _ V_w2.out).mono ?_
      rintro en_w3 w3 ⟨d3, rfl, hk3, _, b_w3⟩
      have HB_w3 := Lib.hid (bt HB_w2.out b_w3)
      have P_w3 := Lib.hid (P_w2.out.next b_w3)
      have V_w3 := Lib.hid (Rd.below V_w2.out b_w3)
      have R_w3 := Lib.hid (Rd.below R_w2.out b_w3)
      try clear l_Pw2
      try clear Pw2_0
      try clear Pw2_1
      try clear Pw2_2
      try clear Pw2_3
      try clear Pw2_4
      try clear Pw2_5
      try clear P_w2
      try clear V_w2
      try clear R_w2
      try clear HB_w2
      try clear b_w3
      try simp only at hk3
      have HK3 := Lib.hid hk3; obtain ⟨y3, c3, rfl, _, _, _⟩ := hk3
      have HB_w3a := Lib.hid (HB_w3.out.alloc HB_w3.out.size (.cells #[.int .i64 0, .int .i64 0, .int .i64 0, .int .i64 0, .int .i64 0, .slice y3 0 c3] 25))
      have P_w3a := Lib.hid (P_w3.out.alloc (.cells #[.int .i64 0, .int .i64 0, .int .i64 0, .int .i64 0, .int .i64 0, .slice y3 0 c3] 25))
      have V_w3a := Lib.hid (Rd.below V_w3.out ((br _).alloc (Nat.le_refl _) (.cells #[.int .i64 0, .int .i64 0, .int .i64 0, .int .i64 0, .int .i64 0, .slice y3 0 c3] 25)))
      have R_w3a := Lib.hid (Rd.below R_w3.out ((br _).alloc (Nat.le_refl _) (.cells #[.int .i64 0, .int .i64 0, .int .i64 0, .int .i64 0, .int .i64 0, .slice y3 0 c3] 25)))
      have KV_w3a := Lib.hid (Rd.below HK3.out ((br _).alloc (Nat.le_refl _) (.cells #[.int .i64 0, .int .i64 0, .int .i64 0, .int .i64 0, .int .i64 0, .slice y3 0 c3] 25)))
      have Q_w3a := Lib.hid (Box.new w3 25 [.int .i64 0, .int .i64 0, .int .i64 0, .int .i64 0, .int .i64 0, .slice y3 0 c3])
      try clear P_w3
      try clear V_w3
      try clear R_w3
      try clear HB_w3
      have k0 := (HB_w3a.out.cell (p := ⟨g, off + m * 3, none⟩) hbl).trans Q0.out
      have i0 : (0 : Int) ≤ (m : Int) := by omega
      go_wp2_with fail
      refine (CD.out _ _ R_w3a.out).mono ?_
      rintro en_w6 w6 ⟨v6, rfl, hr6, b_w6⟩
      have HR6 := Lib.hid hr6; clear k0 hr6
      have HB_w6 := Lib.hid (bt HB_w3a.out b_w6)
      have P_w6 := Lib.hid (P_w3a.out.next b_w6)
      have Q_w6 := Lib.hid (Q_w3a.out.next b_w6)
      have V_w6 := Lib.hid (Rd.below V_w3a.out b_w6)
      have R_w6 := Lib.hid (Rd.below R_w3a.out b_w6)
      have KV_w6 := Lib.hid (Rd.below KV_w3a.out b_w6)
      try clear P_w3a
      try clear Q_w3a
      try clear V_w3a
      try clear R_w3a
      try clear KV_w3a
      try clear HB_w3a
      try clear b_w6
      have h_P := P_w6.out
      have l_Pw6 := h_P.lt
      have Pw6_0 := h_P.cell 0; have Pw6_1 := h_P.cell 1; have Pw6_2 := h_P.cell 2; have Pw6_3 := h_P.cell 3; have Pw6_4 := h_P.cell 4; have Pw6_5 := h_P.cell 5
      simp only [List.getElem?_cons_zero, List.getElem?_cons_succ] at Pw6_0 Pw6_1 Pw6_2 Pw6_3 Pw6_4 Pw6_5
      clear h_P
      have hx6 := rdX_lit ⟨⟨id, born, a, b, ser⟩, x, cap, l⟩ w6 V_w6.out
      have HX6 := Lib.hid hx6; clear hx6
      have HR6a := Lib.hid (Rd.below HR6.out ((br _).alloc (Nat.le_refl _) (.cells #[.int .i64 id, .int .i64 born, .int .i64 a, .int .i64 b, .int .i64 ser, .slice x l.length cap] 25)))
      have HB_w6a := Lib.hid (HB_w6.out.alloc HB_w6.out.size (.cells #[.int .i64 id, .int .i64 born, .int .i64 a, .int .i64 b, .int .i64 ser, .slice x l.length cap] 25))
      have P_w6a := Lib.hid (P_w6.out.alloc (.cells #[.int .i64 id, .int .i64 born, .int .i64 a, .int .i64 b, .int .i64 ser, .slice x l.length cap] 25))
      have Q_w6a := Lib.hid (Q_w6.out.alloc (.cells #[.int .i64 id, .int .i64 born, .int .i64 a, .int .i64 b, .int .i64 ser, .slice x l.length cap] 25))
      have V_w6a := Lib.hid (Rd.below V_w6.out ((br _).alloc (Nat.le_refl _) (.cells #[.int .i64 id, .int .i64 born, .int .i64 a, .int .i64 b, .int .i64 ser, .slice x l.length cap] 25)))
      have R_w6a := Lib.hid (Rd.below R_w6.out ((br _).alloc (Nat.le_refl _) (.cells #[.int .i64 id, .int .i64 born, .int .i64 a, .int .i64 b, .int .i64 ser, .slice x l.length cap] 25)))
      have KV_w6a := Lib.hid (Rd.below KV_w6.out ((br _).alloc (Nat.le_refl _) (.cells #[.int .i64 id, .int .i64 born, .int .i64 a, .int .i64 b, .int .i64 ser, .slice x l.length cap] 25)))
      try clear P_w6
      try clear Q_w6
      try clear V_w6
      try clear R_w6
      try clear KV_w6
      try clear HB_w6
      go_wp2_with fail
      refine (CA.out _ _ (eps.eraseIdx m) [⟨⟨id, born, a, b, ser⟩, x, cap, l⟩] _ ?_ ?_ ?_).mono ?_
      · exact HR6a.out
      · exact HX6.out
      · exact HTB.out _ HB_w6a.out
      rintro en_w7 w7 ⟨rfl, b_w7⟩
      have HB_w7 := Lib.hid (bt HB_w6a.out b_w7)
      have P_w7 := Lib.hid (P_w6a.out.next b_w7)
      have Q_w7 := Lib.hid (Q_w6a.out.next b_w7)
      have V_w7 := Lib.hid (Rd.below V_w6a.out b_w7)
      have R_w7 := Lib.hid (Rd.below R_w6a.out b_w7)
      have KV_w7 := Lib.hid (Rd.below KV_w6a.out b_w7)
      try clear l_Pw6
      try clear Pw6_0
      try clear Pw6_1
      try clear Pw6_2
      try clear Pw6_3
      try clear Pw6_4
      try clear Pw6_5
      try clear P_w6a
      try clear Q_w6a
      try clear V_w6a
      try clear R_w6a
      try clear KV_w6a
      try clear HB_w6a
      try clear b_w7
      rw [HADM.out x cap]
      go_wp2
      go_ret
      exact ⟨by first | rfl | (simp; done), HB_w7.out⟩
  · have hn : (E != 0) = true := by simp [c]
    have he := HBD.out c
    have hem : T.toList = [] := by rw [he]; exact ByteArray.toList_eq _
    have hem2 : T.toList.isEmpty = true := by rw [hem]; rfl
    clear he HBD HLS HQ
    have V_w := Lib.hid (HV0.out)
    have R_w := Lib.hid (HR0.out)
    have HB_wa := Lib.hid ((br w).alloc (Nat.le_refl _) (.cells #[.int .i64 id, .int .i64 born, .int .i64 a, .int .i64 b, .int .i64 ser, .slice x l.length cap] 25))
    have V_wa := Lib.hid (Rd.below V_w.out ((br _).alloc (Nat.le_refl _) (.cells #[.int .i64 id, .int .i64 born, .int .i64 a, .int .i64 b, .int .i64 ser, .slice x l.length cap] 25)))
    have R_wa := Lib.hid (Rd.below R_w.out ((br _).alloc (Nat.le_refl _) (.cells #[.int .i64 id, .int .i64 born, .int .i64 a, .int .i64 b, .int .i64 ser, .slice x l.length cap] 25)))
    have P_wa := Lib.hid (Box.new w 25 [.int .i64 id, .int .i64 born, .int .i64 a, .int .i64 b, .int .i64 ser, .slice x l.length cap])
    try clear P_w
    try clear V_w
    try clear R_w
    go_enter Tryd.func8, Tryd.ntmps8
    have h_P := P_wa.out
    have l_Pwa := h_P.lt
    have Pwa_0 := h_P.cell 0; have Pwa_1 := h_P.cell 1; have Pwa_2 := h_P.cell 2; have Pwa_3 := h_P.cell 3; have Pwa_4 := h_P.cell 4; have Pwa_5 := h_P.cell 5
    simp only [List.getElem?_cons_zero, List.getElem?_cons_succ] at Pwa_0 Pwa_1 Pwa_2 Pwa_3 Pwa_4 Pwa_5
    clear h_P
    go_wp2_with fail
    refine (CW.out _ _ R_wa.out _ V_wa.out).mono ?_
    rintro en_w1 w1 ⟨rfl, b_w1⟩
    have HB_w1 := Lib.hid (bt HB_wa.out b_w1)
    have P_w1 := Lib.hid (P_wa.out.next b_w1)
    have V_w1 := Lib.hid (Rd.below V_wa.out b_w1)
    have R_w1 := Lib.hid (Rd.below R_wa.out b_w1)
    try clear l_Pwa
    try clear Pwa_0
    try clear Pwa_1
    try clear Pwa_2
    try clear Pwa_3
    try clear Pwa_4
    try clear Pwa_5
    try clear P_wa
    try clear V_wa
    try clear R_wa
    try clear HB_wa
    try clear b_w1
    go_wp2_with fail
    refine (CB.out _ (HTB.out _ HB_w1.out)).mono ?_
    rintro en_w2 w2 ⟨rfl, b_w2⟩
    have HB_w2 := Lib.hid (bt HB_w1.out b_w2)
    have P_w2 := Lib.hid (P_w1.out.next b_w2)
    have V_w2 := Lib.hid (Rd.below V_w1.out b_w2)
    have R_w2 := Lib.hid (Rd.below R_w1.out b_w2)
    try clear P_w1
    try clear V_w1
    try clear R_w1
    try clear HB_w1
    try clear b_w2
    go_wp2
    go_ret
    exact ⟨by first | rfl | (simp; done), HB_w2.out⟩
end Gt
end Go.Proofs.YtdfdjampodkpgaaDoor
