/- Gate: the statement AdmitLatest. (gen_gate14.py) -/
import Derived.Test.YtdfdjampodkpgaaDoorGateLaw1
import Derived.Test.YtdfdjampodkpgaaDoorGatePlain2
set_option linter.unusedSimpArgs false
set_option linter.unusedVariables false
namespace Go.Proofs.YtdfdjampodkpgaaDoor
open Go.RowKit
namespace Gt
open Sn Pa Rg Tg
set_option maxRecDepth 100000 in
set_option maxHeartbeats 1600000 in
theorem admitLatest (v u : Value) (eps : List Ep) (xs : List Px) (i n z : Int) (ka kb : W64) (w : World) (hv : Rd 3 Rg.eE w v eps) (hx : RdX w u xs) (hT : Sl.Tab w) :
    Calls Tryd.prog 7 #[v, u, .int .i64 i, .int .i64 n, .int .i64 z, .agg #[.int .u64 (wi ka), .int .u64 (wi kb)]] w (BoolQ true w) := by
  have HTB := Lib.hid (fun w' (hb : Below w.heap.size w w') => hT.below hb)
  have HVB := Lib.hid (fun w' (hb : Below w.heap.size w w') => hv.below hb)
  have HXB := Lib.hid (fun w' (hb : Below w.heap.size w w') => hx.next hb)
  have CB := Lib.hid (fun w' h => begun_any w' h)
  have hle := hx.rd.len_le
  obtain ⟨ua, uc, rfl, h1, h2, h3⟩ := hx.rd
  have H3 := Lib.hid h3; clear h3 hx hv hT
  by_cases c0 : i < 0
  · have HB_wa := Lib.hid ((br w).alloc (Nat.le_refl _) (.cells #[.int .u64 (wi ka), .int .u64 (wi kb)] 45))
    have K_wa := Lib.hid (Box.new w 45 [.int .u64 (wi ka), .int .u64 (wi kb)])
    try clear K_w
    go_enter Tryd.func7, Tryd.ntmps7
    go_wp2_with fail
    refine (CB.out _ (HTB.out _ HB_wa.out)).mono ?_
    rintro en_w1 w1 ⟨rfl, b_w1⟩
    have HB_w1 := Lib.hid (bt HB_wa.out b_w1)
    have K_w1 := Lib.hid (K_wa.out.next b_w1)
    try clear K_wa
    try clear HB_wa
    try clear b_w1
    go_wp2
    go_ret
    exact ⟨by first | rfl | (simp; done), HB_w1.out⟩
  by_cases c1 : (xs.length : Int) ≤ i
  · have HB_wa := Lib.hid ((br w).alloc (Nat.le_refl _) (.cells #[.int .u64 (wi ka), .int .u64 (wi kb)] 45))
    have K_wa := Lib.hid (Box.new w 45 [.int .u64 (wi ka), .int .u64 (wi kb)])
    try clear K_w
    go_enter Tryd.func7, Tryd.ntmps7
    go_wp2_with fail
    refine (CB.out _ (HTB.out _ HB_wa.out)).mono ?_
    rintro en_w1 w1 ⟨rfl, b_w1⟩
    have HB_w1 := Lib.hid (bt HB_wa.out b_w1)
    have K_w1 := Lib.hid (K_wa.out.next b_w1)
    try clear K_wa
    try clear HB_wa
    try clear b_w1
    go_wp2
    go_ret
    exact ⟨by first | rfl | (simp; done), HB_w1.out⟩
  obtain ⟨k, rfl⟩ : ∃ k : Nat, i = (k : Int) := ⟨i.toNat, by omega⟩
  have hk : k < xs.length := by omega
  obtain ⟨g, off, rfl, hbl, hc⟩ := H3.out (by omega)
  obtain ⟨q0, q1, q2, q3, q4, q5⟩ := eX_at hc k hk
  have i1 : (k : Int) < (xs.length : Int) := by omega
  have i0 : (0 : Int) ≤ (k : Int) := by omega
  have i2 : ¬ (xs.length : Int) ≤ (k : Int) := by omega
  have i3 : ¬ (k : Int) < 0 := by omega
  have CW := Lib.hid (fun v w' h (g : Below w.heap.size w w') => write_any v eps xs[k].p xs[k].v xs[k].l w' h ((HXB.out _ g).ln _ (List.getElem_mem hk)))
  have CH := Lib.hid (fun w' (g : Below w.heap.size w w') => Pa.has_any xs[k].p xs[k].v xs[k].l n z w' ((HXB.out _ g).ln _ (List.getElem_mem hk)))
  have CP := Lib.hid (fun w' (g : Below w.heap.size w w') => passesR_any _ xs w' (HXB.out _ g))
  have CK := Lib.hid (fun v w' h => add_any v eps ka kb w' h)
  unfold SealQ at CW; unfold RingQ at CK
  have hsz := wr_size eps xs[k].p xs[k].l
  have hbd := fun (h : (wrF eps xs[k].p xs[k].l).2 ≠ 0) => wr_bad h
  have hok := fun (h : (wrF eps xs[k].p xs[k].l).2 = 0) => (wr_ok h).1
  have hla := fun (h : (wrF eps xs[k].p xs[k].l).2 = 0) (hp : pasE (pls xs) = 0) => latest (eps := eps) k hk h n z hp
  have hmo := fun (h : (wrF eps xs[k].p xs[k].l).2 = 0) (hh : (addF eps (ka, kb)).2 = 0) => latest_more h (ka, kb) hh xs n z
  obtain ⟨⟨T, E⟩, hTE⟩ : ∃ r, wrF eps xs[k].p xs[k].l = r := ⟨_, rfl⟩
  rw [hTE] at CW hsz hbd hok hla hmo; clear hTE
  simp only at CW hsz hbd hok hla hmo
  have CA := Lib.hid (fun v es w' h (g : Below w.heap.size w w') => admit_any v _ es xs T n z (Nat.le_trans hsz (by decide)) w' h (HXB.out _ g) (HTB.out _ g))
  obtain ⟨F, hF⟩ : ∃ F, admF eps xs T n z = F := ⟨_, rfl⟩
  rw [hF] at hla hmo
  have CA1 := Lib.hid (fun v w' h g => by have := CA.out v eps w' h g; rw [hF] at this; exact this)
  obtain ⟨⟨M, HH⟩, hM⟩ : ∃ r, addF eps (ka, kb) = r := ⟨_, rfl⟩
  rw [hM] at CK hmo; clear hM hsz
  try simp only at CK hmo
  obtain ⟨PP, hPP⟩ : ∃ r, pasE (pls xs) = r := ⟨_, rfl⟩
  have hfp : PP ≠ 0 → F = PP := fun h => by rw [← hF]; unfold admF; rw [hPP, if_pos h]
  rw [hPP] at CP hla; clear hPP hF
  have HFQ := Lib.hid hfp; clear hfp
  obtain ⟨B, hB⟩ : ∃ r, rawB xs[k].p xs[k].l n z = r := ⟨_, rfl⟩
  rw [hB] at CH hla; clear hB
  have HBD := Lib.hid hbd; have HOK := Lib.hid hok; have HLA := Lib.hid hla; have HMO := Lib.hid hmo
  clear hbd hok hla hmo hc H3
  obtain ⟨PE, hPE⟩ : ∃ r, passE xs[k].p xs[k].l = r := ⟨_, rfl⟩
  rw [hPE] at CH HOK; clear hPE
  unfold aP Px.v at CW CH
  unfold Px.v at q5
  generalize xs[k].p.id = t0 at *
  generalize xs[k].p.born = t1 at *
  generalize xs[k].p.a = t2 at *
  generalize xs[k].p.b = t3 at *
  generalize xs[k].p.ser = t4 at *
  generalize xs[k].a = pa at *; generalize xs[k].l.length = pl at *; generalize xs[k].cap = pc at *
  have Q0 := Lib.hid q0; clear q0
  have Q1 := Lib.hid q1; clear q1
  have Q2 := Lib.hid q2; clear q2
  have Q3 := Lib.hid q3; clear q3
  have Q4 := Lib.hid q4; clear q4
  have Q5 := Lib.hid q5; clear q5
  by_cases c : E = 0
  · have hn : (E != 0) = false := by simp [c]
    have hpe := HOK.out c
    subst hpe
    have HLA2 := Lib.hid (HLA.out c); have HMO2 := Lib.hid (HMO.out c)
    subst c
    simp only [decide_true, Bool.true_and] at CH
    clear HBD HOK HLA HMO
    by_cases ch : HH = 0
    · have hh : (HH == 0) = true := by simp [ch]
      have hmo := HMO2.out ch; subst ch; have CA2 := Lib.hid (fun v w' h g => by have := CA.out v M w' h g; rw [hmo] at this; exact this); clear hmo
      by_cases cp : PP = 0
      · have hpp : (PP != 0) = false := by simp [cp]
        have hla := HLA2.out cp
        have hF0 : (F == 0) = B := by cases B <;> simp [hla]
        have hF3 : (F == 3) = !B := by cases B <;> simp [hla]
        have hcs : (B = true ∧ F = 0) ∨ (B = false ∧ F = 3) := by cases B <;> simp_all
        subst cp; clear hla hF0 hF3
        rcases hcs with ⟨rfl, rfl⟩ | ⟨rfl, rfl⟩
        · have HB_wa := Lib.hid ((br w).alloc (Nat.le_refl _) (.cells #[.int .u64 (wi ka), .int .u64 (wi kb)] 45))
          have K_wa := Lib.hid (Box.new w 45 [.int .u64 (wi ka), .int .u64 (wi kb)])
          try clear K_w
          go_enter Tryd.func7, Tryd.ntmps7
          go_wp2_with fail
          refine (CB.out _ (HTB.out _ HB_wa.out)).mono ?_
          rintro en_w1 w1 ⟨rfl, b_w1⟩
          have HB_w1 := Lib.hid (bt HB_wa.out b_w1)
          have K_w1 := Lib.hid (K_wa.out.next b_w1)
          try clear K_wa
          try clear HB_wa
          try clear b_w1
          have d0 := (HB_w1.out.cell (p := ⟨g, off + k * 6, none⟩) hbl).trans Q0.out
          have d1 := (HB_w1.out.cell (p := ⟨g, off + k * 6 + 1, none⟩) hbl).trans Q1.out
          have d2 := (HB_w1.out.cell (p := ⟨g, off + k * 6 + 2, none⟩) hbl).trans Q2.out
          have d3 := (HB_w1.out.cell (p := ⟨g, off + k * 6 + 3, none⟩) hbl).trans Q3.out
          have d4 := (HB_w1.out.cell (p := ⟨g, off + k * 6 + 4, none⟩) hbl).trans Q4.out
          have d5 := (HB_w1.out.cell (p := ⟨g, off + k * 6 + 5, none⟩) hbl).trans Q5.out
          go_wp2_with fail
          refine (CW.out _ _ (HVB.out _ HB_w1.out) HB_w1.out).mono ?_
          rintro en_w2 w2 ⟨rfl, b_w2⟩
          have HB_w2 := Lib.hid (bt HB_w1.out b_w2)
          have K_w2 := Lib.hid (K_w1.out.next b_w2)
          try clear K_w1
          try clear HB_w1
          try clear b_w2
          clear d0 d1 d2 d3 d4 d5
          go_wp2_with fail
          refine (CA1.out _ _ (HVB.out _ HB_w2.out) HB_w2.out).mono ?_
          rintro en_w3 w3 ⟨rfl, b_w3⟩
          have HB_w3 := Lib.hid (bt HB_w2.out b_w3)
          have K_w3 := Lib.hid (K_w2.out.next b_w3)
          try clear K_w2
          try clear HB_w2
          try clear b_w3
          have d0 := (HB_w3.out.cell (p := ⟨g, off + k * 6, none⟩) hbl).trans Q0.out
          have d1 := (HB_w3.out.cell (p := ⟨g, off + k * 6 + 1, none⟩) hbl).trans Q1.out
          have d2 := (HB_w3.out.cell (p := ⟨g, off + k * 6 + 2, none⟩) hbl).trans Q2.out
          have d3 := (HB_w3.out.cell (p := ⟨g, off + k * 6 + 3, none⟩) hbl).trans Q3.out
          have d4 := (HB_w3.out.cell (p := ⟨g, off + k * 6 + 4, none⟩) hbl).trans Q4.out
          have d5 := (HB_w3.out.cell (p := ⟨g, off + k * 6 + 5, none⟩) hbl).trans Q5.out
          go_wp2_with fail
          refine (CH.out _ HB_w3.out).mono ?_
          rintro en_w4 w4 ⟨rfl, b_w4⟩
          have HB_w4 := Lib.hid (bt HB_w3.out b_w4)
          have K_w4 := Lib.hid (K_w3.out.next b_w4)
          try clear K_w3
          try clear HB_w3
          try clear b_w4
          clear d0 d1 d2 d3 d4 d5
          have h_K := K_w4.out
          have l_Kw4 := h_K.lt
          have Kw4_0 := h_K.cell 0; have Kw4_1 := h_K.cell 1
          simp only [List.getElem?_cons_zero, List.getElem?_cons_succ] at Kw4_0 Kw4_1
          clear h_K
          go_wp2_with fail
          refine (CK.out _ _ (HVB.out _ HB_w4.out)).mono ?_
          rintro en_w5 w5 ⟨v5, rfl, hr5, b_w5⟩
          have HR5 := Lib.hid hr5; clear hr5
          have HB_w5 := Lib.hid (bt HB_w4.out b_w5)
          have K_w5 := Lib.hid (K_w4.out.next b_w5)
          try clear l_Kw4
          try clear Kw4_0
          try clear Kw4_1
          try clear K_w4
          try clear HB_w4
          try clear b_w5
          have hff : ((0 : Int) != 0) = false := by simp
          go_wp2_with fail
          refine (CA2.out _ _ HR5.out HB_w5.out).mono ?_
          rintro en_w6 w6 ⟨rfl, b_w6⟩
          have HB_w6 := Lib.hid (bt HB_w5.out b_w6)
          have K_w6 := Lib.hid (K_w5.out.next b_w6)
          try clear K_w5
          try clear HB_w5
          try clear b_w6
          go_wp2_with fail
          refine (CP.out _ HB_w6.out).mono ?_
          rintro en_w7 w7 ⟨rfl, b_w7⟩
          have HB_w7 := Lib.hid (bt HB_w6.out b_w7)
          have K_w7 := Lib.hid (K_w6.out.next b_w7)
          try clear K_w6
          try clear HB_w6
          try clear b_w7
          go_wp2
          go_ret
          exact ⟨by first | rfl | (simp; done), HB_w7.out⟩
        · have HB_wa := Lib.hid ((br w).alloc (Nat.le_refl _) (.cells #[.int .u64 (wi ka), .int .u64 (wi kb)] 45))
          have K_wa := Lib.hid (Box.new w 45 [.int .u64 (wi ka), .int .u64 (wi kb)])
          try clear K_w
          go_enter Tryd.func7, Tryd.ntmps7
          go_wp2_with fail
          refine (CB.out _ (HTB.out _ HB_wa.out)).mono ?_
          rintro en_w1 w1 ⟨rfl, b_w1⟩
          have HB_w1 := Lib.hid (bt HB_wa.out b_w1)
          have K_w1 := Lib.hid (K_wa.out.next b_w1)
          try clear K_wa
          try clear HB_wa
          try clear b_w1
          have d0 := (HB_w1.out.cell (p := ⟨g, off + k * 6, none⟩) hbl).trans Q0.out
          have d1 := (HB_w1.out.cell (p := ⟨g, off + k * 6 + 1, none⟩) hbl).trans Q1.out
          have d2 := (HB_w1.out.cell (p := ⟨g, off + k * 6 + 2, none⟩) hbl).trans Q2.out
          have d3 := (HB_w1.out.cell (p := ⟨g, off + k * 6 + 3, none⟩) hbl).trans Q3.out
          have d4 := (HB_w1.out.cell (p := ⟨g, off + k * 6 + 4, none⟩) hbl).trans Q4.out
          have d5 := (HB_w1.out.cell (p := ⟨g, off + k * 6 + 5, none⟩) hbl).trans Q5.out
          go_wp2_with fail
          refine (CW.out _ _ (HVB.out _ HB_w1.out) HB_w1.out).mono ?_
          rintro en_w2 w2 ⟨rfl, b_w2⟩
          have HB_w2 := Lib.hid (bt HB_w1.out b_w2)
          have K_w2 := Lib.hid (K_w1.out.next b_w2)
          try clear K_w1
          try clear HB_w1
          try clear b_w2
          clear d0 d1 d2 d3 d4 d5
          go_wp2_with fail
          refine (CA1.out _ _ (HVB.out _ HB_w2.out) HB_w2.out).mono ?_
          rintro en_w3 w3 ⟨rfl, b_w3⟩
          have HB_w3 := Lib.hid (bt HB_w2.out b_w3)
          have K_w3 := Lib.hid (K_w2.out.next b_w3)
          try clear K_w2
          try clear HB_w2
          try clear b_w3
          have d0 := (HB_w3.out.cell (p := ⟨g, off + k * 6, none⟩) hbl).trans Q0.out
          have d1 := (HB_w3.out.cell (p := ⟨g, off + k * 6 + 1, none⟩) hbl).trans Q1.out
          have d2 := (HB_w3.out.cell (p := ⟨g, off + k * 6 + 2, none⟩) hbl).trans Q2.out
          have d3 := (HB_w3.out.cell (p := ⟨g, off + k * 6 + 3, none⟩) hbl).trans Q3.out
          have d4 := (HB_w3.out.cell (p := ⟨g, off + k * 6 + 4, none⟩) hbl).trans Q4.out
          have d5 := (HB_w3.out.cell (p := ⟨g, off + k * 6 + 5, none⟩) hbl).trans Q5.out
          go_wp2_with fail
          refine (CH.out _ HB_w3.out).mono ?_
          rintro en_w4 w4 ⟨rfl, b_w4⟩
          have HB_w4 := Lib.hid (bt HB_w3.out b_w4)
          have K_w4 := Lib.hid (K_w3.out.next b_w4)
          try clear K_w3
          try clear HB_w3
          try clear b_w4
          clear d0 d1 d2 d3 d4 d5
          have h_K := K_w4.out
          have l_Kw4 := h_K.lt
          have Kw4_0 := h_K.cell 0; have Kw4_1 := h_K.cell 1
          simp only [List.getElem?_cons_zero, List.getElem?_cons_succ] at Kw4_0 Kw4_1
          clear h_K
          go_wp2_with fail
          refine (CK.out _ _ (HVB.out _ HB_w4.out)).mono ?_
          rintro en_w5 w5 ⟨v5, rfl, hr5, b_w5⟩
          have HR5 := Lib.hid hr5; clear hr5
          have HB_w5 := Lib.hid (bt HB_w4.out b_w5)
          have K_w5 := Lib.hid (K_w4.out.next b_w5)
          try clear l_Kw4
          try clear Kw4_0
          try clear Kw4_1
          try clear K_w4
          try clear HB_w4
          try clear b_w5
          have hff : ((3 : Int) != 3) = false := by simp
          go_wp2_with fail
          refine (CA2.out _ _ HR5.out HB_w5.out).mono ?_
          rintro en_w6 w6 ⟨rfl, b_w6⟩
          have HB_w6 := Lib.hid (bt HB_w5.out b_w6)
          have K_w6 := Lib.hid (K_w5.out.next b_w6)
          try clear K_w5
          try clear HB_w5
          try clear b_w6
          go_wp2_with fail
          refine (CP.out _ HB_w6.out).mono ?_
          rintro en_w7 w7 ⟨rfl, b_w7⟩
          have HB_w7 := Lib.hid (bt HB_w6.out b_w7)
          have K_w7 := Lib.hid (K_w6.out.next b_w7)
          try clear K_w6
          try clear HB_w6
          try clear b_w7
          go_wp2
          go_ret
          exact ⟨by first | rfl | (simp; done), HB_w7.out⟩
      · have hpp : (PP != 0) = true := by simp [cp]
        have HFP := Lib.hid (HFQ.out cp)
        have HB_wa := Lib.hid ((br w).alloc (Nat.le_refl _) (.cells #[.int .u64 (wi ka), .int .u64 (wi kb)] 45))
        have K_wa := Lib.hid (Box.new w 45 [.int .u64 (wi ka), .int .u64 (wi kb)])
        try clear K_w
        go_enter Tryd.func7, Tryd.ntmps7
        go_wp2_with fail
        refine (CB.out _ (HTB.out _ HB_wa.out)).mono ?_
        rintro en_w1 w1 ⟨rfl, b_w1⟩
        have HB_w1 := Lib.hid (bt HB_wa.out b_w1)
        have K_w1 := Lib.hid (K_wa.out.next b_w1)
        try clear K_wa
        try clear HB_wa
        try clear b_w1
        have d0 := (HB_w1.out.cell (p := ⟨g, off + k * 6, none⟩) hbl).trans Q0.out
        have d1 := (HB_w1.out.cell (p := ⟨g, off + k * 6 + 1, none⟩) hbl).trans Q1.out
        have d2 := (HB_w1.out.cell (p := ⟨g, off + k * 6 + 2, none⟩) hbl).trans Q2.out
        have d3 := (HB_w1.out.cell (p := ⟨g, off + k * 6 + 3, none⟩) hbl).trans Q3.out
        have d4 := (HB_w1.out.cell (p := ⟨g, off + k * 6 + 4, none⟩) hbl).trans Q4.out
        have d5 := (HB_w1.out.cell (p := ⟨g, off + k * 6 + 5, none⟩) hbl).trans Q5.out
        go_wp2_with fail
        refine (CW.out _ _ (HVB.out _ HB_w1.out) HB_w1.out).mono ?_
        rintro en_w2 w2 ⟨rfl, b_w2⟩
        have HB_w2 := Lib.hid (bt HB_w1.out b_w2)
        have K_w2 := Lib.hid (K_w1.out.next b_w2)
        try clear K_w1
        try clear HB_w1
        try clear b_w2
        clear d0 d1 d2 d3 d4 d5
        go_wp2_with fail
        refine (CA1.out _ _ (HVB.out _ HB_w2.out) HB_w2.out).mono ?_
        rintro en_w3 w3 ⟨rfl, b_w3⟩
        have HB_w3 := Lib.hid (bt HB_w2.out b_w3)
        have K_w3 := Lib.hid (K_w2.out.next b_w3)
        try clear K_w2
        try clear HB_w2
        try clear b_w3
        have d0 := (HB_w3.out.cell (p := ⟨g, off + k * 6, none⟩) hbl).trans Q0.out
        have d1 := (HB_w3.out.cell (p := ⟨g, off + k * 6 + 1, none⟩) hbl).trans Q1.out
        have d2 := (HB_w3.out.cell (p := ⟨g, off + k * 6 + 2, none⟩) hbl).trans Q2.out
        have d3 := (HB_w3.out.cell (p := ⟨g, off + k * 6 + 3, none⟩) hbl).trans Q3.out
        have d4 := (HB_w3.out.cell (p := ⟨g, off + k * 6 + 4, none⟩) hbl).trans Q4.out
        have d5 := (HB_w3.out.cell (p := ⟨g, off + k * 6 + 5, none⟩) hbl).trans Q5.out
        go_wp2_with fail
        refine (CH.out _ HB_w3.out).mono ?_
        rintro en_w4 w4 ⟨rfl, b_w4⟩
        have HB_w4 := Lib.hid (bt HB_w3.out b_w4)
        have K_w4 := Lib.hid (K_w3.out.next b_w4)
        try clear K_w3
        try clear HB_w3
        try clear b_w4
        clear d0 d1 d2 d3 d4 d5
        have h_K := K_w4.out
        have l_Kw4 := h_K.lt
        have Kw4_0 := h_K.cell 0; have Kw4_1 := h_K.cell 1
        simp only [List.getElem?_cons_zero, List.getElem?_cons_succ] at Kw4_0 Kw4_1
        clear h_K
        go_wp2_with fail
        refine (CK.out _ _ (HVB.out _ HB_w4.out)).mono ?_
        rintro en_w5 w5 ⟨v5, rfl, hr5, b_w5⟩
        have HR5 := Lib.hid hr5; clear hr5
        have HB_w5 := Lib.hid (bt HB_w4.out b_w5)
        have K_w5 := Lib.hid (K_w4.out.next b_w5)
        try clear l_Kw4
        try clear Kw4_0
        try clear Kw4_1
        try clear K_w4
        try clear HB_w4
        try clear b_w5
        have hff : (F != F) = false := by simp
        go_wp2_with fail
        refine (CA2.out _ _ HR5.out HB_w5.out).mono ?_
        rintro en_w6 w6 ⟨rfl, b_w6⟩
        have HB_w6 := Lib.hid (bt HB_w5.out b_w6)
        have K_w6 := Lib.hid (K_w5.out.next b_w6)
        try clear K_w5
        try clear HB_w5
        try clear b_w6
        go_wp2_with fail
        refine (CP.out _ HB_w6.out).mono ?_
        rintro en_w7 w7 ⟨rfl, b_w7⟩
        have HB_w7 := Lib.hid (bt HB_w6.out b_w7)
        have K_w7 := Lib.hid (K_w6.out.next b_w7)
        try clear K_w6
        try clear HB_w6
        try clear b_w7
        have hfp := HFP.out; have hfe : (F == PP) = true := by simp [hfp]
        go_wp2
        go_ret
        exact ⟨by first | rfl | (simp; done), HB_w7.out⟩
    · have hh : (HH == 0) = false := by simp [ch]
      by_cases cp : PP = 0
      · have hpp : (PP != 0) = false := by simp [cp]
        have hla := HLA2.out cp
        have hF0 : (F == 0) = B := by cases B <;> simp [hla]
        have hF3 : (F == 3) = !B := by cases B <;> simp [hla]
        have hcs : (B = true ∧ F = 0) ∨ (B = false ∧ F = 3) := by cases B <;> simp_all
        subst cp; clear hla hF0 hF3
        rcases hcs with ⟨rfl, rfl⟩ | ⟨rfl, rfl⟩
        · have HB_wa := Lib.hid ((br w).alloc (Nat.le_refl _) (.cells #[.int .u64 (wi ka), .int .u64 (wi kb)] 45))
          have K_wa := Lib.hid (Box.new w 45 [.int .u64 (wi ka), .int .u64 (wi kb)])
          try clear K_w
          go_enter Tryd.func7, Tryd.ntmps7
          go_wp2_with fail
          refine (CB.out _ (HTB.out _ HB_wa.out)).mono ?_
          rintro en_w1 w1 ⟨rfl, b_w1⟩
          have HB_w1 := Lib.hid (bt HB_wa.out b_w1)
          have K_w1 := Lib.hid (K_wa.out.next b_w1)
          try clear K_wa
          try clear HB_wa
          try clear b_w1
          have d0 := (HB_w1.out.cell (p := ⟨g, off + k * 6, none⟩) hbl).trans Q0.out
          have d1 := (HB_w1.out.cell (p := ⟨g, off + k * 6 + 1, none⟩) hbl).trans Q1.out
          have d2 := (HB_w1.out.cell (p := ⟨g, off + k * 6 + 2, none⟩) hbl).trans Q2.out
          have d3 := (HB_w1.out.cell (p := ⟨g, off + k * 6 + 3, none⟩) hbl).trans Q3.out
          have d4 := (HB_w1.out.cell (p := ⟨g, off + k * 6 + 4, none⟩) hbl).trans Q4.out
          have d5 := (HB_w1.out.cell (p := ⟨g, off + k * 6 + 5, none⟩) hbl).trans Q5.out
          go_wp2_with fail
          refine (CW.out _ _ (HVB.out _ HB_w1.out) HB_w1.out).mono ?_
          rintro en_w2 w2 ⟨rfl, b_w2⟩
          have HB_w2 := Lib.hid (bt HB_w1.out b_w2)
          have K_w2 := Lib.hid (K_w1.out.next b_w2)
          try clear K_w1
          try clear HB_w1
          try clear b_w2
          clear d0 d1 d2 d3 d4 d5
          go_wp2_with fail
          refine (CA1.out _ _ (HVB.out _ HB_w2.out) HB_w2.out).mono ?_
          rintro en_w3 w3 ⟨rfl, b_w3⟩
          have HB_w3 := Lib.hid (bt HB_w2.out b_w3)
          have K_w3 := Lib.hid (K_w2.out.next b_w3)
          try clear K_w2
          try clear HB_w2
          try clear b_w3
          have d0 := (HB_w3.out.cell (p := ⟨g, off + k * 6, none⟩) hbl).trans Q0.out
          have d1 := (HB_w3.out.cell (p := ⟨g, off + k * 6 + 1, none⟩) hbl).trans Q1.out
          have d2 := (HB_w3.out.cell (p := ⟨g, off + k * 6 + 2, none⟩) hbl).trans Q2.out
          have d3 := (HB_w3.out.cell (p := ⟨g, off + k * 6 + 3, none⟩) hbl).trans Q3.out
          have d4 := (HB_w3.out.cell (p := ⟨g, off + k * 6 + 4, none⟩) hbl).trans Q4.out
          have d5 := (HB_w3.out.cell (p := ⟨g, off + k * 6 + 5, none⟩) hbl).trans Q5.out
          go_wp2_with fail
          refine (CH.out _ HB_w3.out).mono ?_
          rintro en_w4 w4 ⟨rfl, b_w4⟩
          have HB_w4 := Lib.hid (bt HB_w3.out b_w4)
          have K_w4 := Lib.hid (K_w3.out.next b_w4)
          try clear K_w3
          try clear HB_w3
          try clear b_w4
          clear d0 d1 d2 d3 d4 d5
          have h_K := K_w4.out
          have l_Kw4 := h_K.lt
          have Kw4_0 := h_K.cell 0; have Kw4_1 := h_K.cell 1
          simp only [List.getElem?_cons_zero, List.getElem?_cons_succ] at Kw4_0 Kw4_1
          clear h_K
          go_wp2_with fail
          refine (CK.out _ _ (HVB.out _ HB_w4.out)).mono ?_
          rintro en_w5 w5 ⟨v5, rfl, hr5, b_w5⟩
          have HR5 := Lib.hid hr5; clear hr5
          have HB_w5 := Lib.hid (bt HB_w4.out b_w5)
          have K_w5 := Lib.hid (K_w4.out.next b_w5)
          try clear l_Kw4
          try clear Kw4_0
          try clear Kw4_1
          try clear K_w4
          try clear HB_w4
          try clear b_w5
          go_wp2_with fail
          refine (CP.out _ HB_w5.out).mono ?_
          rintro en_w7 w7 ⟨rfl, b_w7⟩
          have HB_w7 := Lib.hid (bt HB_w5.out b_w7)
          have K_w7 := Lib.hid (K_w5.out.next b_w7)
          try clear K_w5
          try clear HB_w5
          try clear b_w7
          go_wp2
          go_ret
          exact ⟨by first | rfl | (simp; done), HB_w7.out⟩
        · have HB_wa := Lib.hid ((br w).alloc (Nat.le_refl _) (.cells #[.int .u64 (wi ka), .int .u64 (wi kb)] 45))
          have K_wa := Lib.hid (Box.new w 45 [.int .u64 (wi ka), .int .u64 (wi kb)])
          try clear K_w
          go_enter Tryd.func7, Tryd.ntmps7
          go_wp2_with fail
          refine (CB.out _ (HTB.out _ HB_wa.out)).mono ?_
          rintro en_w1 w1 ⟨rfl, b_w1⟩
          have HB_w1 := Lib.hid (bt HB_wa.out b_w1)
          have K_w1 := Lib.hid (K_wa.out.next b_w1)
          try clear K_wa
          try clear HB_wa
          try clear b_w1
          have d0 := (HB_w1.out.cell (p := ⟨g, off + k * 6, none⟩) hbl).trans Q0.out
          have d1 := (HB_w1.out.cell (p := ⟨g, off + k * 6 + 1, none⟩) hbl).trans Q1.out
          have d2 := (HB_w1.out.cell (p := ⟨g, off + k * 6 + 2, none⟩) hbl).trans Q2.out
          have d3 := (HB_w1.out.cell (p := ⟨g, off + k * 6 + 3, none⟩) hbl).trans Q3.out
          have d4 := (HB_w1.out.cell (p := ⟨g, off + k * 6 + 4, none⟩) hbl).trans Q4.out
          have d5 := (HB_w1.out.cell (p := ⟨g, off + k * 6 + 5, none⟩) hbl).trans Q5.out
          go_wp2_with fail
          refine (CW.out _ _ (HVB.out _ HB_w1.out) HB_w1.out).mono ?_
          rintro en_w2 w2 ⟨rfl, b_w2⟩
          have HB_w2 := Lib.hid (bt HB_w1.out b_w2)
          have K_w2 := Lib.hid (K_w1.out.next b_w2)
          try clear K_w1
          try clear HB_w1
          try clear b_w2
          clear d0 d1 d2 d3 d4 d5
          go_wp2_with fail
          refine (CA1.out _ _ (HVB.out _ HB_w2.out) HB_w2.out).mono ?_
          rintro en_w3 w3 ⟨rfl, b_w3⟩
          have HB_w3 := Lib.hid (bt HB_w2.out b_w3)
          have K_w3 := Lib.hid (K_w2.out.next b_w3)
          try clear K_w2
          try clear HB_w2
          try clear b_w3
          have d0 := (HB_w3.out.cell (p := ⟨g, off + k * 6, none⟩) hbl).trans Q0.out
          have d1 := (HB_w3.out.cell (p := ⟨g, off + k * 6 + 1, none⟩) hbl).trans Q1.out
          have d2 := (HB_w3.out.cell (p := ⟨g, off + k * 6 + 2, none⟩) hbl).trans Q2.out
          have d3 := (HB_w3.out.cell (p := ⟨g, off + k * 6 + 3, none⟩) hbl).trans Q3.out
          have d4 := (HB_w3.out.cell (p := ⟨g, off + k * 6 + 4, none⟩) hbl).trans Q4.out
          have d5 := (HB_w3.out.cell (p := ⟨g, off + k * 6 + 5, none⟩) hbl).trans Q5.out
          go_wp2_with fail
          refine (CH.out _ HB_w3.out).mono ?_
          rintro en_w4 w4 ⟨rfl, b_w4⟩
          have HB_w4 := Lib.hid (bt HB_w3.out b_w4)
          have K_w4 := Lib.hid (K_w3.out.next b_w4)
          try clear K_w3
          try clear HB_w3
          try clear b_w4
          clear d0 d1 d2 d3 d4 d5
          have h_K := K_w4.out
          have l_Kw4 := h_K.lt
          have Kw4_0 := h_K.cell 0; have Kw4_1 := h_K.cell 1
          simp only [List.getElem?_cons_zero, List.getElem?_cons_succ] at Kw4_0 Kw4_1
          clear h_K
          go_wp2_with fail
          refine (CK.out _ _ (HVB.out _ HB_w4.out)).mono ?_
          rintro en_w5 w5 ⟨v5, rfl, hr5, b_w5⟩
          have HR5 := Lib.hid hr5; clear hr5
          have HB_w5 := Lib.hid (bt HB_w4.out b_w5)
          have K_w5 := Lib.hid (K_w4.out.next b_w5)
          try clear l_Kw4
          try clear Kw4_0
          try clear Kw4_1
          try clear K_w4
          try clear HB_w4
          try clear b_w5
          go_wp2_with fail
          refine (CP.out _ HB_w5.out).mono ?_
          rintro en_w7 w7 ⟨rfl, b_w7⟩
          have HB_w7 := Lib.hid (bt HB_w5.out b_w7)
          have K_w7 := Lib.hid (K_w5.out.next b_w7)
          try clear K_w5
          try clear HB_w5
          try clear b_w7
          go_wp2
          go_ret
          exact ⟨by first | rfl | (simp; done), HB_w7.out⟩
      · have hpp : (PP != 0) = true := by simp [cp]
        have HFP := Lib.hid (HFQ.out cp)
        have HB_wa := Lib.hid ((br w).alloc (Nat.le_refl _) (.cells #[.int .u64 (wi ka), .int .u64 (wi kb)] 45))
        have K_wa := Lib.hid (Box.new w 45 [.int .u64 (wi ka), .int .u64 (wi kb)])
        try clear K_w
        go_enter Tryd.func7, Tryd.ntmps7
        go_wp2_with fail
        refine (CB.out _ (HTB.out _ HB_wa.out)).mono ?_
        rintro en_w1 w1 ⟨rfl, b_w1⟩
        have HB_w1 := Lib.hid (bt HB_wa.out b_w1)
        have K_w1 := Lib.hid (K_wa.out.next b_w1)
        try clear K_wa
        try clear HB_wa
        try clear b_w1
        have d0 := (HB_w1.out.cell (p := ⟨g, off + k * 6, none⟩) hbl).trans Q0.out
        have d1 := (HB_w1.out.cell (p := ⟨g, off + k * 6 + 1, none⟩) hbl).trans Q1.out
        have d2 := (HB_w1.out.cell (p := ⟨g, off + k * 6 + 2, none⟩) hbl).trans Q2.out
        have d3 := (HB_w1.out.cell (p := ⟨g, off + k * 6 + 3, none⟩) hbl).trans Q3.out
        have d4 := (HB_w1.out.cell (p := ⟨g, off + k * 6 + 4, none⟩) hbl).trans Q4.out
        have d5 := (HB_w1.out.cell (p := ⟨g, off + k * 6 + 5, none⟩) hbl).trans Q5.out
        go_wp2_with fail
        refine (CW.out _ _ (HVB.out _ HB_w1.out) HB_w1.out).mono ?_
        rintro en_w2 w2 ⟨rfl, b_w2⟩
        have HB_w2 := Lib.hid (bt HB_w1.out b_w2)
        have K_w2 := Lib.hid (K_w1.out.next b_w2)
        try clear K_w1
        try clear HB_w1
        try clear b_w2
        clear d0 d1 d2 d3 d4 d5
        go_wp2_with fail
        refine (CA1.out _ _ (HVB.out _ HB_w2.out) HB_w2.out).mono ?_
        rintro en_w3 w3 ⟨rfl, b_w3⟩
        have HB_w3 := Lib.hid (bt HB_w2.out b_w3)
        have K_w3 := Lib.hid (K_w2.out.next b_w3)
        try clear K_w2
        try clear HB_w2
        try clear b_w3
        have d0 := (HB_w3.out.cell (p := ⟨g, off + k * 6, none⟩) hbl).trans Q0.out
        have d1 := (HB_w3.out.cell (p := ⟨g, off + k * 6 + 1, none⟩) hbl).trans Q1.out
        have d2 := (HB_w3.out.cell (p := ⟨g, off + k * 6 + 2, none⟩) hbl).trans Q2.out
        have d3 := (HB_w3.out.cell (p := ⟨g, off + k * 6 + 3, none⟩) hbl).trans Q3.out
        have d4 := (HB_w3.out.cell (p := ⟨g, off + k * 6 + 4, none⟩) hbl).trans Q4.out
        have d5 := (HB_w3.out.cell (p := ⟨g, off + k * 6 + 5, none⟩) hbl).trans Q5.out
        go_wp2_with fail
        refine (CH.out _ HB_w3.out).mono ?_
        rintro en_w4 w4 ⟨rfl, b_w4⟩
        have HB_w4 := Lib.hid (bt HB_w3.out b_w4)
        have K_w4 := Lib.hid (K_w3.out.next b_w4)
        try clear K_w3
        try clear HB_w3
        try clear b_w4
        clear d0 d1 d2 d3 d4 d5
        have h_K := K_w4.out
        have l_Kw4 := h_K.lt
        have Kw4_0 := h_K.cell 0; have Kw4_1 := h_K.cell 1
        simp only [List.getElem?_cons_zero, List.getElem?_cons_succ] at Kw4_0 Kw4_1
        clear h_K
        go_wp2_with fail
        refine (CK.out _ _ (HVB.out _ HB_w4.out)).mono ?_
        rintro en_w5 w5 ⟨v5, rfl, hr5, b_w5⟩
        have HR5 := Lib.hid hr5; clear hr5
        have HB_w5 := Lib.hid (bt HB_w4.out b_w5)
        have K_w5 := Lib.hid (K_w4.out.next b_w5)
        try clear l_Kw4
        try clear Kw4_0
        try clear Kw4_1
        try clear K_w4
        try clear HB_w4
        try clear b_w5
        go_wp2_with fail
        refine (CP.out _ HB_w5.out).mono ?_
        rintro en_w7 w7 ⟨rfl, b_w7⟩
        have HB_w7 := Lib.hid (bt HB_w5.out b_w7)
        have K_w7 := Lib.hid (K_w5.out.next b_w7)
        try clear K_w5
        try clear HB_w5
        try clear b_w7
        have hfp := HFP.out; have hfe : (F == PP) = true := by simp [hfp]
        go_wp2
        go_ret
        exact ⟨by first | rfl | (simp; done), HB_w7.out⟩
  · have hn : (E != 0) = true := by simp [c]
    have he := HBD.out c
    have hem : T.toList = [] := by rw [he]; exact ByteArray.toList_eq _
    have hem2 : T.toList.isEmpty = true := by rw [hem]; rfl
    clear he HBD HOK HLA HMO
    have HB_wa := Lib.hid ((br w).alloc (Nat.le_refl _) (.cells #[.int .u64 (wi ka), .int .u64 (wi kb)] 45))
    have K_wa := Lib.hid (Box.new w 45 [.int .u64 (wi ka), .int .u64 (wi kb)])
    try clear K_w
    go_enter Tryd.func7, Tryd.ntmps7
    go_wp2_with fail
    refine (CB.out _ (HTB.out _ HB_wa.out)).mono ?_
    rintro en_w1 w1 ⟨rfl, b_w1⟩
    have HB_w1 := Lib.hid (bt HB_wa.out b_w1)
    have K_w1 := Lib.hid (K_wa.out.next b_w1)
    try clear K_wa
    try clear HB_wa
    try clear b_w1
    have d0 := (HB_w1.out.cell (p := ⟨g, off + k * 6, none⟩) hbl).trans Q0.out
    have d1 := (HB_w1.out.cell (p := ⟨g, off + k * 6 + 1, none⟩) hbl).trans Q1.out
    have d2 := (HB_w1.out.cell (p := ⟨g, off + k * 6 + 2, none⟩) hbl).trans Q2.out
    have d3 := (HB_w1.out.cell (p := ⟨g, off + k * 6 + 3, none⟩) hbl).trans Q3.out
    have d4 := (HB_w1.out.cell (p := ⟨g, off + k * 6 + 4, none⟩) hbl).trans Q4.out
    have d5 := (HB_w1.out.cell (p := ⟨g, off + k * 6 + 5, none⟩) hbl).trans Q5.out
    go_wp2_with fail
    refine (CW.out _ _ (HVB.out _ HB_w1.out) HB_w1.out).mono ?_
    rintro en_w2 w2 ⟨rfl, b_w2⟩
    have HB_w2 := Lib.hid (bt HB_w1.out b_w2)
    have K_w2 := Lib.hid (K_w1.out.next b_w2)
    try clear K_w1
    try clear HB_w1
    try clear b_w2
    clear d0 d1 d2 d3 d4 d5
    go_wp2
    go_ret
    exact ⟨by first | rfl | (simp; done), HB_w2.out⟩
end Gt
end Go.Proofs.YtdfdjampodkpgaaDoor
