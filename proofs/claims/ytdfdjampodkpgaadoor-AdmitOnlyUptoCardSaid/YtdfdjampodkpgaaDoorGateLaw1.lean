/- Gate: the statements AdmitTells, TokenTells, TokenBack. (gen_gate12.py) -/
import Derived.Test.YtdfdjampodkpgaaDoorGateBegun
import Derived.Test.YtdfdjampodkpgaaDoorJOpen
set_option linter.unusedSimpArgs false
set_option linter.unusedVariables false
namespace Go.Proofs.YtdfdjampodkpgaaDoor
open Go.RowKit
namespace Gt
open Sn Pa Rg Tg
set_option maxRecDepth 100000 in
set_option maxHeartbeats 2000000 in
theorem admitTells (v u : Value) (eps : List Ep) (xs : List Px) (t : ByteArray) (n z : Int) (ht : t.size ≤ 1100000) (w : World) (hv : Rd 3 Rg.eE w v eps) (hx : RdX w u xs) (hT : Sl.Tab w) :
    Calls Tryd.prog 4 #[v, u, .string t, .int .i64 n, .int .i64 z] w (BoolQ true w) := by
  have CB := Lib.hid (begun_any w hT)
  have CA := Lib.hid (fun w' (hb : Below w.heap.size w w') => admit_any v u eps xs t n z ht w' (hv.below hb) (hx.next hb) (hT.below hb))
  have CR := Lib.hid (fun w' (hb : Below w.heap.size w w') => admitR_any v u eps xs t n z ht w' (hv.below hb) (hx.next hb))
  clear hv hx hT ht
  generalize admF eps xs t n z = F at *
  have hf : (F == F) = true := by simp
  go_enter Tryd.func4, Tryd.ntmps4
  go_wp2_with fail
  refine CB.out.mono ?_
  rintro en w1 ⟨rfl, b1⟩
  have HB1 := Lib.hid b1; clear b1
  go_wp2_with fail
  refine (CA.out _ HB1.out).mono ?_
  rintro en w2 ⟨rfl, b2⟩
  have HB2 := Lib.hid (bt HB1.out b2); clear b2
  go_wp2_with fail
  refine (CR.out _ HB2.out).mono ?_
  rintro en w3 ⟨rfl, b3⟩
  have HB3 := Lib.hid (bt HB2.out b3); clear b3
  go_wp2
  go_ret
  exact ⟨by first | rfl | (simp; done), HB3.out⟩
set_option maxRecDepth 100000 in
set_option maxHeartbeats 4000000 in
theorem tokenTells (v : Value) (eps : List Ep) (p : Ps) (d : Value) (l : List Sp) (t : ByteArray) (ht : t.size ≤ 1100000) (w : World) (hv : Rd 3 Rg.eE w v eps) (hd : RdE elS w d l) (hT : Sl.Tab w) :
    Calls Tryd.prog 3 #[v, aP p d, .string t] w (BoolQ true w) := by
  have HTB := Lib.hid (fun w' (hb : Below w.heap.size w w') => hT.below hb)
  have CW := Lib.hid (fun v w' h d g => write_any v eps p d l w' h g)
  have CX := Lib.hid (fun v w' h d g => text_any v eps p d l w' h g)
  have CR := Lib.hid (fun v w' h g => read_any v eps t ht w' h g)
  have CO := Lib.hid (fun v w' h => of_any v eps t ht w' h)
  have CB := Lib.hid (fun w' h => begun_any w' h)
  unfold SealQ at CW CX
  unfold RdQ at CR CO
  obtain ⟨⟨T, E⟩, hTE⟩ : ∃ r, wrF eps p l = r := ⟨_, rfl⟩
  obtain ⟨⟨⟨⟨ki, ka, kb, ks⟩, kl⟩, F⟩, hKF⟩ : ∃ r, rdF eps t = r := ⟨_, rfl⟩
  rw [hTE] at CW CX; rw [hKF] at CR CO
  clear hTE hKF ht hT
  simp only at CW CX CR CO
  have CS := Lib.hid (fun d d' w h h' => sameT_yes ⟨ki, ka, kb, ks⟩ d d' kl w h h')
  have q1 : (T.toList == T.toList) = true := by simp
  have q2 : (E == E) = true := by simp
  have q3 : (F == F) = true := by simp
  obtain ⟨id, born, a, b, ser⟩ := p
  have HV0 := Lib.hid hd
  have HR0 := Lib.hid hv
  clear hv
  obtain ⟨x, cap, rfl, _, _, _⟩ := hd
  have V_w := Lib.hid (HV0.out)
  have R_w := Lib.hid (HR0.out)
  have HB_wa := Lib.hid ((br w).alloc (Nat.le_refl _) (.cells #[.int .i64 id, .int .i64 born, .int .i64 a, .int .i64 b, .int .i64 ser, .slice x l.length cap] 25))
  have V_wa := Lib.hid (Rd.below V_w.out ((br _).alloc (Nat.le_refl _) (.cells #[.int .i64 id, .int .i64 born, .int .i64 a, .int .i64 b, .int .i64 ser, .slice x l.length cap] 25)))
  have R_wa := Lib.hid (Rd.below R_w.out ((br _).alloc (Nat.le_refl _) (.cells #[.int .i64 id, .int .i64 born, .int .i64 a, .int .i64 b, .int .i64 ser, .slice x l.length cap] 25)))
  have P_wa := Lib.hid (Box.new w 25 [.int .i64 id, .int .i64 born, .int .i64 a, .int .i64 b, .int .i64 ser, .slice x l.length cap])
  try clear P_w
  try clear V_w
  try clear R_w
  go_enter Tryd.func3, Tryd.ntmps3
  have h_P := P_wa.out
  have l_Pwa := h_P.lt
  have Pwa_0 := h_P.cell 0; have Pwa_1 := h_P.cell 1; have Pwa_2 := h_P.cell 2; have Pwa_3 := h_P.cell 3; have Pwa_4 := h_P.cell 4; have Pwa_5 := h_P.cell 5
  simp only [List.getElem?_cons_zero, List.getElem?_cons_succ] at Pwa_0 Pwa_1 Pwa_2 Pwa_3 Pwa_4 Pwa_5
  clear h_P
  go_wp2_with fail
  refine (CW.out _ _ R_wa.out _ V_wa.out).mono ?_
  rintro en_w1 w1 ⟨rfl, b_w1⟩
  have HB_w1 := Lib.hid (bt HB_wa.out b_w1)
  have P_w1 := Lib.hid (P_wa.out.next b_w1)
  have V_w1 := Lib.hid (Rd.below V_wa.out b_w1)
  have R_w1 := Lib.hid (Rd.below R_wa.out b_w1)
  try clear l_Pwa
  try clear Pwa_0
  try clear Pwa_1
  try clear Pwa_2
  try clear Pwa_3
  try clear Pwa_4
  try clear Pwa_5
  try clear P_wa
  try clear V_wa
  try clear R_wa
  try clear HB_wa
  try clear b_w1
  go_wp2_with fail
  refine (CR.out _ _ R_w1.out (HTB.out _ HB_w1.out)).mono ?_
  rintro en_w2 w2 ⟨d2, rfl, hk2, _, b_w2⟩
  have HB_w2 := Lib.hid (bt HB_w1.out b_w2)
  have P_w2 := Lib.hid (P_w1.out.next b_w2)
  have V_w2 := Lib.hid (Rd.below V_w1.out b_w2)
  have R_w2 := Lib.hid (Rd.below R_w1.out b_w2)
  try clear P_w1
  try clear V_w1
  try clear R_w1
  try clear HB_w1
  try clear b_w2
  try simp only at hk2
  have HK2 := Lib.hid hk2; obtain ⟨y2, c2, rfl, _, _, _⟩ := hk2
  have HB_w2a := Lib.hid (HB_w2.out.alloc HB_w2.out.size (.cells #[.int .i64 ki, .int .i64 ka, .int .i64 kb, .int .i64 ks, .slice y2 kl.length c2] 30))
  have P_w2a := Lib.hid (P_w2.out.alloc (.cells #[.int .i64 ki, .int .i64 ka, .int .i64 kb, .int .i64 ks, .slice y2 kl.length c2] 30))
  have V_w2a := Lib.hid (Rd.below V_w2.out ((br _).alloc (Nat.le_refl _) (.cells #[.int .i64 ki, .int .i64 ka, .int .i64 kb, .int .i64 ks, .slice y2 kl.length c2] 30)))
  have R_w2a := Lib.hid (Rd.below R_w2.out ((br _).alloc (Nat.le_refl _) (.cells #[.int .i64 ki, .int .i64 ka, .int .i64 kb, .int .i64 ks, .slice y2 kl.length c2] 30)))
  have KV_w2a := Lib.hid (Rd.below HK2.out ((br _).alloc (Nat.le_refl _) (.cells #[.int .i64 ki, .int .i64 ka, .int .i64 kb, .int .i64 ks, .slice y2 kl.length c2] 30)))
  have K_w2a := Lib.hid (Box.new w2 30 [.int .i64 ki, .int .i64 ka, .int .i64 kb, .int .i64 ks, .slice y2 kl.length c2])
  try clear P_w2
  try clear V_w2
  try clear R_w2
  try clear HB_w2
  have h_P := P_w2a.out
  have l_Pw2a := h_P.lt
  have Pw2a_0 := h_P.cell 0; have Pw2a_1 := h_P.cell 1; have Pw2a_2 := h_P.cell 2; have Pw2a_3 := h_P.cell 3; have Pw2a_4 := h_P.cell 4; have Pw2a_5 := h_P.cell 5
  simp only [List.getElem?_cons_zero, List.getElem?_cons_succ] at Pw2a_0 Pw2a_1 Pw2a_2 Pw2a_3 Pw2a_4 Pw2a_5
  clear h_P
  have h_K := K_w2a.out
  have l_Kw2a := h_K.lt
  have Kw2a_0 := h_K.cell 0; have Kw2a_1 := h_K.cell 1; have Kw2a_2 := h_K.cell 2; have Kw2a_3 := h_K.cell 3; have Kw2a_4 := h_K.cell 4
  simp only [List.getElem?_cons_zero, List.getElem?_cons_succ] at Kw2a_0 Kw2a_1 Kw2a_2 Kw2a_3 Kw2a_4
  clear h_K
  go_wp2_with fail
  refine (CX.out _ _ R_w2a.out _ V_w2a.out).mono ?_
  rintro en_w3 w3 ⟨rfl, b_w3⟩
  have HB_w3 := Lib.hid (bt HB_w2a.out b_w3)
  have P_w3 := Lib.hid (P_w2a.out.next b_w3)
  have K_w3 := Lib.hid (K_w2a.out.next b_w3)
  have V_w3 := Lib.hid (Rd.below V_w2a.out b_w3)
  have R_w3 := Lib.hid (Rd.below R_w2a.out b_w3)
  have KV_w3 := Lib.hid (Rd.below KV_w2a.out b_w3)
  try clear l_Pw2a
  try clear Pw2a_0
  try clear Pw2a_1
  try clear Pw2a_2
  try clear Pw2a_3
  try clear Pw2a_4
  try clear Pw2a_5
  try clear l_Kw2a
  try clear Kw2a_0
  try clear Kw2a_1
  try clear Kw2a_2
  try clear Kw2a_3
  try clear Kw2a_4
  try clear P_w2a
  try clear K_w2a
  try clear V_w2a
  try clear R_w2a
  try clear KV_w2a
  try clear HB_w2a
  try clear b_w3
  go_wp2_with fail
  refine (CO.out _ _ R_w3.out).mono ?_
  rintro en_w4 w4 ⟨d4, rfl, hk4, _, b_w4⟩
  have HB_w4 := Lib.hid (bt HB_w3.out b_w4)
  have P_w4 := Lib.hid (P_w3.out.next b_w4)
  have K_w4 := Lib.hid (K_w3.out.next b_w4)
  have V_w4 := Lib.hid (Rd.below V_w3.out b_w4)
  have R_w4 := Lib.hid (Rd.below R_w3.out b_w4)
  have KV_w4 := Lib.hid (Rd.below KV_w3.out b_w4)
  try clear P_w3
  try clear K_w3
  try clear V_w3
  try clear R_w3
  try clear KV_w3
  try clear HB_w3
  try clear b_w4
  try simp only at hk4
  have HK4 := Lib.hid hk4; obtain ⟨y4, c4, rfl, _, _, _⟩ := hk4
  have HB_w4a := Lib.hid (HB_w4.out.alloc HB_w4.out.size (.cells #[.int .i64 ki, .int .i64 ka, .int .i64 kb, .int .i64 ks, .slice y4 kl.length c4] 30))
  have P_w4a := Lib.hid (P_w4.out.alloc (.cells #[.int .i64 ki, .int .i64 ka, .int .i64 kb, .int .i64 ks, .slice y4 kl.length c4] 30))
  have K_w4a := Lib.hid (K_w4.out.alloc (.cells #[.int .i64 ki, .int .i64 ka, .int .i64 kb, .int .i64 ks, .slice y4 kl.length c4] 30))
  have V_w4a := Lib.hid (Rd.below V_w4.out ((br _).alloc (Nat.le_refl _) (.cells #[.int .i64 ki, .int .i64 ka, .int .i64 kb, .int .i64 ks, .slice y4 kl.length c4] 30)))
  have R_w4a := Lib.hid (Rd.below R_w4.out ((br _).alloc (Nat.le_refl _) (.cells #[.int .i64 ki, .int .i64 ka, .int .i64 kb, .int .i64 ks, .slice y4 kl.length c4] 30)))
  have KV_w4a := Lib.hid (Rd.below KV_w4.out ((br _).alloc (Nat.le_refl _) (.cells #[.int .i64 ki, .int .i64 ka, .int .i64 kb, .int .i64 ks, .slice y4 kl.length c4] 30)))
  have LV_w4a := Lib.hid (Rd.below HK4.out ((br _).alloc (Nat.le_refl _) (.cells #[.int .i64 ki, .int .i64 ka, .int .i64 kb, .int .i64 ks, .slice y4 kl.length c4] 30)))
  have L_w4a := Lib.hid (Box.new w4 30 [.int .i64 ki, .int .i64 ka, .int .i64 kb, .int .i64 ks, .slice y4 kl.length c4])
  try clear P_w4
  try clear K_w4
  try clear V_w4
  try clear R_w4
  try clear KV_w4
  try clear HB_w4
  go_wp2_with fail
  refine (CB.out _ (HTB.out _ HB_w4a.out)).mono ?_
  rintro en_w5 w5 ⟨rfl, b_w5⟩
  have HB_w5 := Lib.hid (bt HB_w4a.out b_w5)
  have P_w5 := Lib.hid (P_w4a.out.next b_w5)
  have K_w5 := Lib.hid (K_w4a.out.next b_w5)
  have L_w5 := Lib.hid (L_w4a.out.next b_w5)
  have V_w5 := Lib.hid (Rd.below V_w4a.out b_w5)
  have R_w5 := Lib.hid (Rd.below R_w4a.out b_w5)
  have KV_w5 := Lib.hid (Rd.below KV_w4a.out b_w5)
  have LV_w5 := Lib.hid (Rd.below LV_w4a.out b_w5)
  try clear P_w4a
  try clear K_w4a
  try clear L_w4a
  try clear V_w4a
  try clear R_w4a
  try clear KV_w4a
  try clear LV_w4a
  try clear HB_w4a
  try clear b_w5
  have h_K := K_w5.out
  have l_Kw5 := h_K.lt
  have Kw5_0 := h_K.cell 0; have Kw5_1 := h_K.cell 1; have Kw5_2 := h_K.cell 2; have Kw5_3 := h_K.cell 3; have Kw5_4 := h_K.cell 4
  simp only [List.getElem?_cons_zero, List.getElem?_cons_succ] at Kw5_0 Kw5_1 Kw5_2 Kw5_3 Kw5_4
  clear h_K
  have h_L := L_w5.out
  have l_Lw5 := h_L.lt
  have Lw5_0 := h_L.cell 0; have Lw5_1 := h_L.cell 1; have Lw5_2 := h_L.cell 2; have Lw5_3 := h_L.cell 3; have Lw5_4 := h_L.cell 4
  simp only [List.getElem?_cons_zero, List.getElem?_cons_succ] at Lw5_0 Lw5_1 Lw5_2 Lw5_3 Lw5_4
  clear h_L
  go_wp2_with fail
  refine (CS.out _ _ _ KV_w5.out LV_w5.out).mono ?_
  rintro en_w6 w6 ⟨rfl, b_w6⟩
  have HB_w6 := Lib.hid (bt HB_w5.out b_w6)
  have P_w6 := Lib.hid (P_w5.out.next b_w6)
  have K_w6 := Lib.hid (K_w5.out.next b_w6)
  have L_w6 := Lib.hid (L_w5.out.next b_w6)
  have V_w6 := Lib.hid (Rd.below V_w5.out b_w6)
  have R_w6 := Lib.hid (Rd.below R_w5.out b_w6)
  have KV_w6 := Lib.hid (Rd.below KV_w5.out b_w6)
  have LV_w6 := Lib.hid (Rd.below LV_w5.out b_w6)
  try clear l_Kw5
  try clear Kw5_0
  try clear Kw5_1
  try clear Kw5_2
  try clear Kw5_3
  try clear Kw5_4
  try clear l_Lw5
  try clear Lw5_0
  try clear Lw5_1
  try clear Lw5_2
  try clear Lw5_3
  try clear Lw5_4
  try clear P_w5
  try clear K_w5
  try clear L_w5
  try clear V_w5
  try clear R_w5
  try clear KV_w5
  try clear LV_w5
  try clear HB_w5
  try clear b_w6
  go_wp2
  go_ret
  exact ⟨by first | rfl | (simp; done), HB_w6.out⟩
set_option maxRecDepth 100000 in
set_option maxHeartbeats 4000000 in
theorem tokenBack (v : Value) (eps : List Ep) (p : Ps) (d : Value) (l : List Sp) (w : World) (hv : Rd 3 Rg.eE w v eps) (hd : RdE elS w d l) (hT : Sl.Tab w) :
    Calls Tryd.prog 5 #[v, aP p d] w (BoolQ true w) := by
  have HTB := Lib.hid (fun w' (hb : Below w.heap.size w w') => hT.below hb)
  have CW := Lib.hid (fun v w' h d g => write_any v eps p d l w' h g)
  have CB := Lib.hid (fun w' h => begun_any w' h)
  unfold SealQ at CW
  have hrd := fun h => rd_wr (eps := eps) (p := p) (l := l) h
  have hbd := fun h => wr_bad (eps := eps) (p := p) (l := l) h
  have hsz := wr_size eps p l
  obtain ⟨⟨T, E⟩, hTE⟩ : ∃ r, wrF eps p l = r := ⟨_, rfl⟩
  rw [hTE] at CW hrd hbd hsz
  clear hTE
  simp only at CW hrd hbd hsz
  have HRD := Lib.hid hrd; have HBD := Lib.hid hbd; clear hrd hbd
  have CR := Lib.hid (fun v w' h g => read_any v eps T (Nat.le_trans hsz (by decide)) w' h g)
  clear hsz
  obtain ⟨id, born, a, b, ser⟩ := p
  have CS := Lib.hid (fun d d' w h h' => sameT_yes ⟨id, a, b, ser⟩ d d' l w h h')
  have HV0 := Lib.hid hd
  have HR0 := Lib.hid hv
  clear hv
  obtain ⟨x, cap, rfl, _, _, _⟩ := hd
  clear hT
  by_cases c : E = 0
  · have hn : (E != 0) = false := by simp [c]
    have hr := HRD.out c
    unfold RdQ at CR
    rw [hr] at CR
    try simp only at CR
    subst c
    clear hr HRD HBD
    have V_w := Lib.hid (HV0.out)
    have R_w := Lib.hid (HR0.out)
    have HB_wa := Lib.hid ((br w).alloc (Nat.le_refl _) (.cells #[.int .i64 id, .int .i64 born, .int .i64 a, .int .i64 b, .int .i64 ser, .slice x l.length cap] 25))
    have V_wa := Lib.hid (Rd.below V_w.out ((br _).alloc (Nat.le_refl _) (.cells #[.int .i64 id, .int .i64 born, .int .i64 a, .int .i64 b, .int .i64 ser, .slice x l.length cap] 25)))
    have R_wa := Lib.hid (Rd.below R_w.out ((br _).alloc (Nat.le_refl _) (.cells #[.int .i64 id, .int .i64 born, .int .i64 a, .int .i64 b, .int .i64 ser, .slice x l.length cap] 25)))
    have P_wa := Lib.hid (Box.new w 25 [.int .i64 id, .int .i64 born, .int .i64 a, .int .i64 b, .int .i64 ser, .slice x l.length cap])
    try clear P_w
    try clear V_w
    try clear R_w
    go_enter Tryd.func5, Tryd.ntmps5
    have h_P := P_wa.out
    have l_Pwa := h_P.lt
    have Pwa_0 := h_P.cell 0; have Pwa_1 := h_P.cell 1; have Pwa_2 := h_P.cell 2; have Pwa_3 := h_P.cell 3; have Pwa_4 := h_P.cell 4; have Pwa_5 := h_P.cell 5
    simp only [List.getElem?_cons_zero, List.getElem?_cons_succ] at Pwa_0 Pwa_1 Pwa_2 Pwa_3 Pwa_4 Pwa_5
    clear h_P
    go_wp2_with fail
    refine (CW.out _ _ R_wa.out _ V_wa.out).mono ?_
    rintro en_w1 w1 ⟨rfl, b_w1⟩
    have HB_w1 := Lib.hid (bt HB_wa.out b_w1)
    have P_w1 := Lib.hid (P_wa.out.next b_w1)
    have V_w1 := Lib.hid (Rd.below V_wa.out b_w1)
    have R_w1 := Lib.hid (Rd.below R_wa.out b_w1)
    try clear l_Pwa
    try clear Pwa_0
    try clear Pwa_1
    try clear Pwa_2
    try clear Pwa_3
    try clear Pwa_4
    try clear Pwa_5
    try clear P_wa
    try clear V_wa
    try clear R_wa
    try clear HB_wa
    try clear b_w1
    go_wp2_with fail
    refine (CB.out _ (HTB.out _ HB_w1.out)).mono ?_
    rintro en_w2 w2 ⟨rfl, b_w2⟩
    have HB_w2 := Lib.hid (bt HB_w1.out b_w2)
    have P_w2 := Lib.hid (P_w1.out.next b_w2)
    have V_w2 := Lib.hid (Rd.below V_w1.out b_w2)
    have R_w2 := Lib.hid (Rd.below R_w1.out b_w2)
    try clear P_w1
    try clear V_w1
    try clear R_w1
    try clear HB_w1
    try clear b_w2
    go_wp2_with fail
    refine (CR.out _ _ R_w2.out (HTB.out _ HB_w2.out)).mono ?_
    rintro en_w3 w3 ⟨d2, rfl, hk2, _, b_w3⟩
    have HB_w3 := Lib.hid (bt HB_w2.out b_w3)
    have P_w3 := Lib.hid (P_w2.out.next b_w3)
    have V_w3 := Lib.hid (Rd.below V_w2.out b_w3)
    have R_w3 := Lib.hid (Rd.below R_w2.out b_w3)
    try clear P_w2
    try clear V_w2
    try clear R_w2
    try clear HB_w2
    try clear b_w3
    try simp only at hk2
    have HK2 := Lib.hid hk2; obtain ⟨y2, c2, rfl, _, _, _⟩ := hk2
    have HB_w3a := Lib.hid (HB_w3.out.alloc HB_w3.out.size (.cells #[.int .i64 id, .int .i64 a, .int .i64 b, .int .i64 ser, .slice y2 l.length c2] 30))
    have P_w3a := Lib.hid (P_w3.out.alloc (.cells #[.int .i64 id, .int .i64 a, .int .i64 b, .int .i64 ser, .slice y2 l.length c2] 30))
    have V_w3a := Lib.hid (Rd.below V_w3.out ((br _).alloc (Nat.le_refl _) (.cells #[.int .i64 id, .int .i64 a, .int .i64 b, .int .i64 ser, .slice y2 l.length c2] 30)))
    have R_w3a := Lib.hid (Rd.below R_w3.out ((br _).alloc (Nat.le_refl _) (.cells #[.int .i64 id, .int .i64 a, .int .i64 b, .int .i64 ser, .slice y2 l.length c2] 30)))
    have KV_w3a := Lib.hid (Rd.below HK2.out ((br _).alloc (Nat.le_refl _) (.cells #[.int .i64 id, .int .i64 a, .int .i64 b, .int .i64 ser, .slice y2 l.length c2] 30)))
    have K_w3a := Lib.hid (Box.new w3 30 [.int .i64 id, .int .i64 a, .int .i64 b, .int .i64 ser, .slice y2 l.length c2])
    try clear P_w3
    try clear V_w3
    try clear R_w3
    try clear HB_w3
    have h_P := P_w3a.out
    have l_Pw3a := h_P.lt
    have Pw3a_0 := h_P.cell 0; have Pw3a_1 := h_P.cell 1; have Pw3a_2 := h_P.cell 2; have Pw3a_3 := h_P.cell 3; have Pw3a_4 := h_P.cell 4; have Pw3a_5 := h_P.cell 5
    simp only [List.getElem?_cons_zero, List.getElem?_cons_succ] at Pw3a_0 Pw3a_1 Pw3a_2 Pw3a_3 Pw3a_4 Pw3a_5
    clear h_P
    have h_K := K_w3a.out
    have l_Kw3a := h_K.lt
    have Kw3a_0 := h_K.cell 0; have Kw3a_1 := h_K.cell 1; have Kw3a_2 := h_K.cell 2; have Kw3a_3 := h_K.cell 3; have Kw3a_4 := h_K.cell 4
    simp only [List.getElem?_cons_zero, List.getElem?_cons_succ] at Kw3a_0 Kw3a_1 Kw3a_2 Kw3a_3 Kw3a_4
    clear h_K
    go_wp2_with fail
    refine (CS.out _ _ _ KV_w3a.out V_w3a.out).mono ?_
    rintro en_w4 w4 ⟨rfl, b_w4⟩
    have HB_w4 := Lib.hid (bt HB_w3a.out b_w4)
    have P_w4 := Lib.hid (P_w3a.out.next b_w4)
    have K_w4 := Lib.hid (K_w3a.out.next b_w4)
    have V_w4 := Lib.hid (Rd.below V_w3a.out b_w4)
    have R_w4 := Lib.hid (Rd.below R_w3a.out b_w4)
    have KV_w4 := Lib.hid (Rd.below KV_w3a.out b_w4)
    try clear l_Pw3a
    try clear Pw3a_0
    try clear Pw3a_1
    try clear Pw3a_2
    try clear Pw3a_3
    try clear Pw3a_4
    try clear Pw3a_5
    try clear l_Kw3a
    try clear Kw3a_0
    try clear Kw3a_1
    try clear Kw3a_2
    try clear Kw3a_3
    try clear Kw3a_4
    try clear P_w3a
    try clear K_w3a
    try clear V_w3a
    try clear R_w3a
    try clear KV_w3a
    try clear HB_w3a
    try clear b_w4
    go_wp2
    go_ret
    exact ⟨by first | rfl | (simp; done), HB_w4.out⟩
  · have hn : (E != 0) = true := by simp [c]
    have he := HBD.out c
    have hem : T.toList = [] := by rw [he]; exact ByteArray.toList_eq _
    have hem2 : T.toList.isEmpty = true := by rw [hem]; rfl
    clear he HRD HBD
    have V_w := Lib.hid (HV0.out)
    have R_w := Lib.hid (HR0.out)
    have HB_wa := Lib.hid ((br w).alloc (Nat.le_refl _) (.cells #[.int .i64 id, .int .i64 born, .int .i64 a, .int .i64 b, .int .i64 ser, .slice x l.length cap] 25))
    have V_wa := Lib.hid (Rd.below V_w.out ((br _).alloc (Nat.le_refl _) (.cells #[.int .i64 id, .int .i64 born, .int .i64 a, .int .i64 b, .int .i64 ser, .slice x l.length cap] 25)))
    have R_wa := Lib.hid (Rd.below R_w.out ((br _).alloc (Nat.le_refl _) (.cells #[.int .i64 id, .int .i64 born, .int .i64 a, .int .i64 b, .int .i64 ser, .slice x l.length cap] 25)))
    have P_wa := Lib.hid (Box.new w 25 [.int .i64 id, .int .i64 born, .int .i64 a, .int .i64 b, .int .i64 ser, .slice x l.length cap])
    try clear P_w
    try clear V_w
    try clear R_w
    go_enter Tryd.func5, Tryd.ntmps5
    have h_P := P_wa.out
    have l_Pwa := h_P.lt
    have Pwa_0 := h_P.cell 0; have Pwa_1 := h_P.cell 1; have Pwa_2 := h_P.cell 2; have Pwa_3 := h_P.cell 3; have Pwa_4 := h_P.cell 4; have Pwa_5 := h_P.cell 5
    simp only [List.getElem?_cons_zero, List.getElem?_cons_succ] at Pwa_0 Pwa_1 Pwa_2 Pwa_3 Pwa_4 Pwa_5
    clear h_P
    go_wp2_with fail
    refine (CW.out _ _ R_wa.out _ V_wa.out).mono ?_
    rintro en_w1 w1 ⟨rfl, b_w1⟩
    have HB_w1 := Lib.hid (bt HB_wa.out b_w1)
    have P_w1 := Lib.hid (P_wa.out.next b_w1)
    have V_w1 := Lib.hid (Rd.below V_wa.out b_w1)
    have R_w1 := Lib.hid (Rd.below R_wa.out b_w1)
    try clear l_Pwa
    try clear Pwa_0
    try clear Pwa_1
    try clear Pwa_2
    try clear Pwa_3
    try clear Pwa_4
    try clear Pwa_5
    try clear P_wa
    try clear V_wa
    try clear R_wa
    try clear HB_wa
    try clear b_w1
    go_wp2_with fail
    refine (CB.out _ (HTB.out _ HB_w1.out)).mono ?_
    rintro en_w2 w2 ⟨rfl, b_w2⟩
    have HB_w2 := Lib.hid (bt HB_w1.out b_w2)
    have P_w2 := Lib.hid (P_w1.out.next b_w2)
    have V_w2 := Lib.hid (Rd.below V_w1.out b_w2)
    have R_w2 := Lib.hid (Rd.below R_w1.out b_w2)
    try clear P_w1
    try clear V_w1
    try clear R_w1
    try clear HB_w1
    try clear b_w2
    go_wp2
    go_ret
    exact ⟨by first | rfl | (simp; done), HB_w2.out⟩
end Gt
end Go.Proofs.YtdfdjampodkpgaaDoor
