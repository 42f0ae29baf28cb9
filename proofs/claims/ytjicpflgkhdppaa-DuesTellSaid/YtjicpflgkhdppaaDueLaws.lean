/- What is due: DuesTell, DuesPaid. -/
import Derived.Test.YtjicpflgkhdppaaDueBegun
set_option linter.unusedSimpArgs false
set_option linter.unusedVariables false
namespace Go.Proofs.Ytjicpflgkhdppaa
open Go.RowKit
namespace Du
open Dt Wk Sh
set_option maxRecDepth 100000 in
set_option maxHeartbeats 16000000 in
theorem tell_walk (rest : List Bool) (hr : rest.length = 7) (v : Value) (rules : List Rl) (s u N t m : Int) (vl : Value) (l : List Due) (n : Int) (w : World) (h : RdE elRl w v rules) (hl : RdE elU w vl l) :
    Calls Try.prog 9 #[cV rest v, .int .i64 s, .agg #[.int .i64 u, .int .i64 N], .int .i64 t, .int .i64 m, vl, .int .i64 n] w (RetB (.bool true) w) := by
  have HRD := Lib.hid h
  have HRL := Lib.hid hl
  have CP : RowKit.Hid (∀ w', Below w.heap.size w w' → Calls Try.prog 28 #[cV rest v, .int .i64 s, .agg #[.int .i64 u, .int .i64 N], .int .i64 t, .int .i64 m] w' (PlanQ (planF rest rules u N s t m) w')) := Lib.hid (fun w' hb => plan_any rest hr v rules s u N t m w' (HRD.out.below hb))
  have CQ : RowKit.Hid (∀ w', Below w.heap.size w w' → Calls Try.prog 30 #[cV rest v, .int .i64 s, .agg #[.int .i64 u, .int .i64 N], .int .i64 t, .int .i64 m] w' (PlanQ (planF rest rules u N s t m) w')) := Lib.hid (fun w' hb => planR_any rest hr v rules s u N t m w' (HRD.out.below hb))
  have CA : RowKit.Hid (∀ w', Below w.heap.size w w' → Calls Try.prog 29 #[vl, .int .i64 n] w' (PaidQ l n w')) := Lib.hid (fun w' hb => paid_any vl l n w' (HRL.out.below hb))
  have C1 : RowKit.Hid (∀ w', Below w.heap.size w w' → Calls Try.prog 35 #[vl] w' (IntB (chkU l) w')) := Lib.hid (fun w' hb => Du.check_any vl l w' (HRL.out.below hb))
  have C2 : RowKit.Hid (∀ w', Below w.heap.size w w' → Calls Try.prog 31 #[vl] w' (IntB (chkU l) w')) := Lib.hid (fun w' hb => Du.checkR_any vl l w' (HRL.out.below hb))
  have CG := Lib.hid duesBegun_any
  have CS : RowKit.Hid (∀ v u xs w, RdE elU w v xs → RdE elU w u xs → Calls Try.prog 34 #[v, u] w fun e w' => e = .returned (.bool true) ∧ Below w.heap.size w w') := Lib.hid (fun v u xs w h h' => sameU_yes v u xs w h h')
  have CE : RowKit.Hid (chkU l = 0 → ∀ k w', Below w.heap.size w w' → Calls Try.prog 32 #[vl, .int .i64 k] w' fun e w'' => e = .returned (.int .i64 (paid l k l.length)) ∧ w' = w'') := Lib.hid (fun c k w' hb => penceR_any vl l (chkU_ok c).1 (chkU_ok c).2 k w' (HRL.out.below hb))
  obtain ⟨a, cap, rfl, g1, g2, g3⟩ := h
  obtain ⟨al, cl, rfl, gl1, gl2, gl3⟩ := hl
  clear g3 gl3
  obtain ⟨b0, b1, b2, b3, b4, b5, b6, hbs⟩ := len7 hr
  have hcv : cV rest (.slice a rules.length cap) = .agg #[.bool b0, .bool b1, .bool b2, .bool b3, .bool b4, .bool b5, .bool b6, .slice a rules.length cap] := by rw [hbs]; rfl
  have hb0 := ((br w).alloc (Nat.le_refl _) (calO b0 b1 b2 b3 b4 b5 b6 (.slice a rules.length cap))).alloc (by simp) (.cells #[.int .i64 u, .int .i64 N] 50)
  have hx1 := (Box.new w 25 (calB b0 b1 b2 b3 b4 b5 b6 (.slice a rules.length cap))).alloc (.cells #[.int .i64 u, .int .i64 N] 50)
  have hx2 := Box.new (w.alloc (calO b0 b1 b2 b3 b4 b5 b6 (.slice a rules.length cap))) 50 [.int .i64 u, .int .i64 N]
  rw [asz] at hx2
  have HB0 := Lib.hid hb0; have HX1 := Lib.hid hx1; have HX2 := Lib.hid hx2
  rw [hcv] at CP CQ ⊢
  clear hb0 hx1 hx2 hbs hcv hr
  obtain ⟨P, hP⟩ : ∃ P, planF rest rules u N s t m = P := ⟨_, rfl⟩
  rw [hP] at CP CQ
  clear hP
  obtain ⟨L, E⟩ := P
  unfold PlanQ at CP CQ
  unfold PaidQ at CA
  simp only at CP CQ
  by_cases c : chkU l = 0
  · have CE1 := Lib.hid (CE.out c)
    have hbd := paid_bd l (chkU_ok c).2 n l.length (Nat.le_refl _)
    have hall := paid_all l (chkU_day c) l.length (Nat.le_refl _)
    have h32 := (chkU_ok c).1
    rw [c] at C1 C2 CA
    simp only [if_true] at CA
    have CEn := Lib.hid (CE1.out n)
    have CEa := Lib.hid (CE1.out 3652059)
    rw [hall] at CEa
    obtain ⟨p, hp⟩ : ∃ p, paid l n l.length = p := ⟨_, rfl⟩
    obtain ⟨q, hq⟩ : ∃ q, unpaid l n l.length = q := ⟨_, rfl⟩
    rw [hp, hq] at CA hbd
    rw [hp] at CEn
    rw [← hbd.2.2.2.2] at CEa
    obtain ⟨p0, p1, q0, q1, pq⟩ := hbd
    clear pq
    have p2 : p ≤ 1099511627776 * 32 := by omega
    have q2 : q ≤ 1099511627776 * 32 := by omega
    have e0 : p + q - p = q := by omega
    clear hp hq hall CE CE1 c p1 q1
    go_enter Try.func9, Try.ntmps9
    go_wp2_with fail
    refine (CP.out _ HB0.out).mono ?_
    rintro en w1 ⟨v1, rfl, r1, k1⟩
    have HB1 := Lib.hid (bt HB0.out k1)
    have R1 := Lib.hid r1
    have hx := HX1.out.next k1; have hy := HX2.out.next k1
    have HY1 := Lib.hid hx; have HY2 := Lib.hid hy
    clear k1 r1 HX1 HX2
    go_wp2_with fail
    refine (CA.out _ HB1.out).mono ?_
    rintro en w2 ⟨rfl, k2⟩
    have HB2 := Lib.hid (bt HB1.out k2)
    have R2 := Lib.hid (R1.out.below k2)
    have hx := HY1.out.next k2; have hy := HY2.out.next k2
    have c0 := hx.cell 0; have c1 := hx.cell 1; have c2 := hx.cell 2; have c3 := hx.cell 3; have c4 := hx.cell 4; have c5 := hx.cell 5; have c6 := hx.cell 6; have c7 := hx.cell 7
    have d0 := hy.cell 0; have d1 := hy.cell 1
    simp only [List.getElem?_cons_zero, List.getElem?_cons_succ] at c0 c1 c2 c3 c4 c5 c6 c7 d0 d1
    clear k2 hx hy
    go_wp2_with fail
    refine (CQ.out _ HB2.out).mono ?_
    rintro en w3 ⟨v3, rfl, r3, k3⟩
    have HB3 := Lib.hid (bt HB2.out k3)
    have R3 := Lib.hid r3
    have R13 := Lib.hid (R2.out.below k3)
    clear k3 r3 c0 c1 c2 c3 c4 c5 c6 c7 d0 d1 R1 R2
    go_wp2_with fail
    refine (C2.out _ HB3.out).mono ?_
    rintro en w4 ⟨rfl, k4⟩
    have HB4 := Lib.hid (bt HB3.out k4)
    have R4 := Lib.hid (R3.out.below k4)
    have R14 := Lib.hid (R13.out.below k4)
    clear k4
    go_wp2_with fail
    refine (CEn.out _ HB4.out).mono ?_
    rintro en w5 ⟨rfl, k5⟩
    subst k5
    go_wp2_with fail
    refine (CEa.out _ HB4.out).mono ?_
    rintro en w5 ⟨rfl, k5⟩
    subst k5
    go_wp2_with fail
    refine (CG.out _).mono ?_
    rintro en w6 ⟨rfl, k6⟩
    have HB6 := Lib.hid (bt HB4.out k6)
    have R6 := Lib.hid (R4.out.below k6)
    have R16 := Lib.hid (R14.out.below k6)
    clear k6
    go_wp2_with fail
    refine (CS.out _ _ _ _ R16.out R6.out).mono ?_
    rintro en w7 ⟨rfl, k7⟩
    have HB7 := Lib.hid (bt HB6.out k7)
    clear k7
    go_wp2_with fail
    refine (C1.out _ HB7.out).mono ?_
    rintro en w8 ⟨rfl, k8⟩
    have HB8 := Lib.hid (bt HB7.out k8)
    clear k8
    go_wp2
    go_ret
    exact ⟨by first | rfl | (simp; done), HB8.out⟩
  · obtain ⟨K, hK⟩ : ∃ K, chkU l = K := ⟨_, rfl⟩
    rw [if_neg c, if_neg c] at CA
    rw [hK] at C1 C2 CA c
    have hz : (K == 0) = false := by simpa using c
    clear hK CE c
    go_enter Try.func9, Try.ntmps9
    go_wp2_with fail
    refine (CP.out _ HB0.out).mono ?_
    rintro en w1 ⟨v1, rfl, r1, k1⟩
    have HB1 := Lib.hid (bt HB0.out k1)
    have R1 := Lib.hid r1
    have hx := HX1.out.next k1; have hy := HX2.out.next k1
    have HY1 := Lib.hid hx; have HY2 := Lib.hid hy
    clear k1 r1 HX1 HX2
    go_wp2_with fail
    refine (CA.out _ HB1.out).mono ?_
    rintro en w2 ⟨rfl, k2⟩
    have HB2 := Lib.hid (bt HB1.out k2)
    have R2 := Lib.hid (R1.out.below k2)
    have hx := HY1.out.next k2; have hy := HY2.out.next k2
    have c0 := hx.cell 0; have c1 := hx.cell 1; have c2 := hx.cell 2; have c3 := hx.cell 3; have c4 := hx.cell 4; have c5 := hx.cell 5; have c6 := hx.cell 6; have c7 := hx.cell 7
    have d0 := hy.cell 0; have d1 := hy.cell 1
    simp only [List.getElem?_cons_zero, List.getElem?_cons_succ] at c0 c1 c2 c3 c4 c5 c6 c7 d0 d1
    clear k2 hx hy
    go_wp2_with fail
    refine (CQ.out _ HB2.out).mono ?_
    rintro en w3 ⟨v3, rfl, r3, k3⟩
    have HB3 := Lib.hid (bt HB2.out k3)
    have R3 := Lib.hid r3
    have R13 := Lib.hid (R2.out.below k3)
    clear k3 r3 c0 c1 c2 c3 c4 c5 c6 c7 d0 d1 R1 R2
    go_wp2_with fail
    refine (C2.out _ HB3.out).mono ?_
    rintro en w4 ⟨rfl, k4⟩
    have HB4 := Lib.hid (bt HB3.out k4)
    have R4 := Lib.hid (R3.out.below k4)
    have R14 := Lib.hid (R13.out.below k4)
    clear k4
    go_wp2_with fail
    refine (CG.out _).mono ?_
    rintro en w6 ⟨rfl, k6⟩
    have HB6 := Lib.hid (bt HB4.out k6)
    have R6 := Lib.hid (R4.out.below k6)
    have R16 := Lib.hid (R14.out.below k6)
    clear k6
    go_wp2_with fail
    refine (CS.out _ _ _ _ R16.out R6.out).mono ?_
    rintro en w7 ⟨rfl, k7⟩
    have HB7 := Lib.hid (bt HB6.out k7)
    clear k7
    go_wp2_with fail
    refine (C1.out _ HB7.out).mono ?_
    rintro en w8 ⟨rfl, k8⟩
    have HB8 := Lib.hid (bt HB7.out k8)
    clear k8
    go_wp2
    go_ret
    exact ⟨by first | rfl | (simp; done), HB8.out⟩
theorem total_bd (l : List Due) (h : ∀ s ∈ l, okU s.2) (k : Nat) (hk : k ≤ l.length) : 0 ≤ total l k ∧ total l k ≤ 2199023255552 * k := by
  have := paid_bd l h 0 k hk
  omega
theorem total_at (l : List Due) (k : Nat) (hk : k < l.length) : total l (k + 1) = total l k + l[k].2 := by
  have e : l.getD k (0, 0) = l[k] := by simp [List.getD_eq_getElem?_getD, List.getElem?_eq_getElem hk]
  show total l k + (l.getD k (0, 0)).2 = _
  rw [e]
set_option maxRecDepth 100000 in
set_option maxHeartbeats 16000000 in
theorem paid_walk (vl : Value) (l : List Due) (n m : Int) (w : World) (hl : RdE elU w vl l) : Calls Try.prog 10 #[vl, .int .i64 n, .int .i64 m] w (RetB (.bool true) w) := by
  have HRL := Lib.hid hl
  have CA : RowKit.Hid (∀ w', Below w.heap.size w w' → Calls Try.prog 29 #[vl, .int .i64 n] w' (PaidQ l n w')) := Lib.hid (fun w' hb => paid_any vl l n w' (HRL.out.below hb))
  have CB : RowKit.Hid (∀ w', Below w.heap.size w w' → Calls Try.prog 29 #[vl, .int .i64 m] w' (PaidQ l m w')) := Lib.hid (fun w' hb => paid_any vl l m w' (HRL.out.below hb))
  have CG := Lib.hid duesBegun_any
  have HBR := Lib.hid (br w)
  obtain ⟨al, cl, rfl, gl1, gl2, gl3⟩ := hl
  have H3 := Lib.hid gl3
  clear gl3
  unfold PaidQ at CA CB
  by_cases c : chkU l = 0
  · obtain ⟨h32, hok⟩ := chkU_ok c
    have hb1 := paid_bd l hok n l.length (Nat.le_refl _)
    have hb2 := paid_bd l hok m l.length (Nat.le_refl _)
    have HMO := Lib.hid (fun h => paid_mono l hok n m h l.length (Nat.le_refl _))
    have HTB := Lib.hid (total_bd l hok)
    have HTA := Lib.hid (total_at l)
    have HOK := Lib.hid hok
    rw [c] at CA CB
    simp only [if_true] at CA CB
    obtain ⟨p, hp⟩ : ∃ p, paid l n l.length = p := ⟨_, rfl⟩
    obtain ⟨q, hq⟩ : ∃ q, unpaid l n l.length = q := ⟨_, rfl⟩
    obtain ⟨p', hp'⟩ : ∃ p', paid l m l.length = p' := ⟨_, rfl⟩
    obtain ⟨q', hq'⟩ : ∃ q', unpaid l m l.length = q' := ⟨_, rfl⟩
    rw [hp, hq] at CA hb1
    rw [hp', hq'] at CB hb2
    rw [hp, hp'] at HMO
    obtain ⟨p0, p1, q0, q1, pq⟩ := hb1
    obtain ⟨p0', p1', q0', q1', pq'⟩ := hb2
    have p2 : p ≤ 1099511627776 * 32 := by omega
    have q2 : q ≤ 1099511627776 * 32 := by omega
    have p2' : p' ≤ 1099511627776 * 32 := by omega
    have q2' : q' ≤ 1099511627776 * 32 := by omega
    have HPQ := Lib.hid pq; have HPQ' := Lib.hid pq'
    clear hp hq hp' hq' c p1 q1 p1' q1' pq pq' hok
    go_enter Try.func10, Try.ntmps10
    go_wp2_with fail
    refine (CA.out _ HBR.out).mono ?_
    rintro en w1 ⟨rfl, k1⟩
    have HB1 := Lib.hid (bt HBR.out k1)
    clear k1
    go_wp2_with fail
    refine (CB.out _ HB1.out).mono ?_
    rintro en w2 ⟨rfl, k2⟩
    have HB2 := Lib.hid (bt HB1.out k2)
    clear k2
    go_wp2_with fail
    refine (CG.out _).mono ?_
    rintro en w3 ⟨rfl, k3⟩
    have HB3 := Lib.hid (bt HB2.out k3)
    clear k3
    go_wp2
    go_loopw [13, 14] (fun sm i wr => ∃ k : Nat, k ≤ l.length ∧ i = .int .i64 k ∧ sm = .int .i64 (total l k) ∧ Below w.heap.size w wr) (fun _ i _ => l.length - (intOf i).toNat)
    case atStart => exact ⟨0, Nat.zero_le _, rfl, rfl, HB3.out⟩
    case round =>
      obtain ⟨k, hk, rfl, rfl, hbw⟩ := hrel
      have HBW := Lib.hid hbw
      by_cases hlt : k < l.length
      · obtain ⟨g, off, rfl, hbl, hc⟩ := H3.out (by omega)
        have d1 := (hbw.cell (p := ⟨g, off + k * 2 + 1, none⟩) hbl).trans (eU_at hc k hlt).2
        have i1 : (k : Int) < (l.length : Int) := by omega
        have i0 : (0 : Int) ≤ (k : Int) := by omega
        have htb := HTB.out k (by omega)
        have hta := HTA.out k hlt
        have hok := HOK.out l[k] (List.getElem_mem hlt)
        unfold okU at hok
        obtain ⟨T, hT⟩ : ∃ T, total l k = T := ⟨_, rfl⟩
        rw [hT] at htb hta ⊢
        obtain ⟨x, hx⟩ : ∃ x, l[k].2 = x := ⟨_, rfl⟩
        rw [hx] at d1 hta hok
        have HTT := Lib.hid hta
        have tb : T ≤ 2199023255552 * 32 := by omega
        obtain ⟨t0, _⟩ := htb
        clear hT hx hc hbw hta H3 HTB HTA HOK HMO
        go_wp2
        go_roundw
        case rel => exact ⟨k + 1, by omega, by first | rfl | go_num, by rw [HTT.out], HBW.out⟩
        case measure => simp [intOf]; omega
      · have hkk : k = l.length := by omega
        subst hkk
        have i1 : ¬ (l.length : Int) < (l.length : Int) := by omega
        have e1 := HPQ.out
        have e2 := HPQ'.out
        clear H3 HTB HTA HOK hbw
        obtain ⟨T, hT⟩ : ∃ T, total l l.length = T := ⟨_, rfl⟩
        rw [hT] at e1 e2 ⊢
        clear hT hlt
        by_cases hnm : m < n
        · go_wp2
          go_ret
          exact ⟨by first | rfl | (simp; done), HBW.out⟩
        · have hpp : p ≤ p' := HMO.out (by omega)
          go_wp2
          go_ret
          exact ⟨by first | rfl | (simp; done), HBW.out⟩
  · obtain ⟨K, hK⟩ : ∃ K, chkU l = K := ⟨_, rfl⟩
    rw [if_neg c, if_neg c] at CA CB
    rw [hK] at CA CB c
    have hz : (K == 0) = false := by simpa using c
    clear hK c H3
    go_enter Try.func10, Try.ntmps10
    go_wp2_with fail
    refine (CA.out _ HBR.out).mono ?_
    rintro en w1 ⟨rfl, k1⟩
    have HB1 := Lib.hid (bt HBR.out k1)
    clear k1
    go_wp2_with fail
    refine (CB.out _ HB1.out).mono ?_
    rintro en w2 ⟨rfl, k2⟩
    have HB2 := Lib.hid (bt HB1.out k2)
    clear k2
    go_wp2_with fail
    refine (CG.out _).mono ?_
    rintro en w3 ⟨rfl, k3⟩
    have HB3 := Lib.hid (bt HB2.out k3)
    clear k3
    go_wp2
    go_ret
    exact ⟨by first | rfl | (simp; done), HB3.out⟩
end Du
end Go.Proofs.Ytjicpflgkhdppaa
