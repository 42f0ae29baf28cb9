/- Gate: the document's function on who is admitted. (gen_gate10.py) -/
import Derived.Test.YtdfdjampodkpgaaDoorGateOf2
import Derived.Test.YtdfdjampodkpgaaDoorGatePassesR
import Derived.Test.YtdfdjampodkpgaaDoorGateAdmit
import Derived.Test.YtdfdjampodkpgaaDoorJPass
set_option linter.unusedSimpArgs false
set_option linter.unusedVariables false
namespace Go.Proofs.YtdfdjampodkpgaaDoor
open Go.RowKit
namespace Gt
open Sn Pa Rg Tg
theorem hasDay_w (v : Value) (l : List Sp) (n : Int) (w : World) (h : RdE elS w v l) : Calls Tryd.prog 42 #[v, .int .i64 n] w (fun e w' => e = .returned (.bool (has l n)) ∧ w = w') :=
  (hasDay_any v l n w h).mono (fun e w' h => ⟨h.1, h.2.symm⟩)
theorem rawB_eq (p : Ps) (l : List Sp) (n z : Int) (h : chkS l = 0) : rawB p l n z = hasP p l n z := by
  unfold rawB hasP
  rw [hasB_ok h]
  cases has l n <;> cases decide (p.a ≤ z) <;> cases decide (z ≤ p.b) <;> rfl
theorem pasG_all : ∀ (l done : List Pl), pasG done l = 0 → ∀ x ∈ l, passE x.1 x.2 = 0
  | [], _, _, x, hx => by cases hx
  | y :: l, done, h, x, hx => by
    unfold pasG at h
    by_cases c : passE y.1 y.2 ≠ 0
    · rw [if_pos c] at h; exact absurd h c
    · rw [if_neg c] at h
      by_cases c2 : hasI y.1.id done = true
      · rw [if_pos c2] at h; cases h
      · rw [if_neg c2] at h
        rcases List.mem_cons.1 hx with rfl | hx
        · simpa using c
        · exact pasG_all l _ h x hx
theorem rdF_right (eps : List Ep) (t : ByteArray) (h : (rdF eps t).2 = 0) : passE (psOf (rdF eps t).1.1) (rdF eps t).1.2 = 0 := by
  unfold rdF at h ⊢
  by_cases c1 : (Sl.readF (Sl.nt t)).2 ≠ 0
  · rw [if_pos c1] at h; exact absurd h c1
  · rw [if_neg c1] at h ⊢
    by_cases c2 : (openF eps (Sl.sB (Sl.readF (Sl.nt t)).1)).2.2 ≠ 0
    · rw [if_pos c2] at h; exact absurd h c2
    · rw [if_neg c2] at h ⊢
      generalize (openF eps (Sl.sB (Sl.readF (Sl.nt t)).1)).1.data.toList = L at *
      by_cases c3 : (tokF L).2 = true
      · rw [if_pos c3]
        unfold tokF at c3 ⊢
        by_cases c4 : tokOk L
        · rw [if_pos c4]; exact c4.2
        · rw [if_neg c4] at c3; cases c3
      · rw [if_neg c3] at h; cases h
theorem admT_at {r : Tk × List Sp} {xs : List Px} {n z : Int} {k : Nat} (hk : k < xs.length) (hid : xs[k].p.id = r.1.id) (hall : ∀ (q : Nat) (h : q < xs.length), q < k → xs[q].p.id ≠ r.1.id) : atX xs r.1.id = (k : Int) := by
  have h : findN (isX r.1.id) xs = k := findN_eq _ xs k (by omega) (fun j hj hjk => by unfold isX; exact decide_eq_false (hall j hj hjk)) (fun _ => by unfold isX; exact decide_eq_true hid)
  unfold atX findI
  rw [h, if_neg (by omega)]
theorem admT_no {r : Tk × List Sp} {xs : List Px} {n z : Int} (hall : ∀ (q : Nat) (h : q < xs.length), q < xs.length → xs[q].p.id ≠ r.1.id) : atX xs r.1.id < 0 := by
  have h : findN (isX r.1.id) xs = xs.length := findN_eq _ xs xs.length (Nat.le_refl _) (fun j hj hjk => by unfold isX; exact decide_eq_false (hall j hj hj)) (fun h => absurd h (Nat.lt_irrefl _))
  unfold atX findI
  rw [h, if_pos rfl]; omega
set_option maxRecDepth 100000 in
set_option maxHeartbeats 4000000 in
theorem admitR_any (v u : Value) (eps : List Ep) (xs : List Px) (t : ByteArray) (n z : Int) (ht : t.size ≤ 1100000) (w : World) (hv : Rd 3 Rg.eE w v eps) (hx : RdX w u xs) :
    Calls Tryd.prog 16 #[v, u, .string t, .int .i64 n, .int .i64 z] w (IntQ (admF eps xs t n z) w) := by
  obtain ⟨R, hR⟩ : ∃ R, admF eps xs t n z = R := ⟨_, rfl⟩
  rw [hR]
  unfold admF rawG at hR
  have CP := Lib.hid (passesR_any u xs w hx)
  have HPA := Lib.hid (fun (h : pasE (pls xs) = 0) (x : Px) (hx : x ∈ xs) => pasG_all _ _ h x.pl (List.mem_map.2 ⟨x, hx, rfl⟩))
  have HTR := Lib.hid (rdF_right eps t)
  have CT := Lib.hid (fun w' (hb : Below w.heap.size w w') => of_any v eps t ht w' (hv.below hb))
  unfold RdQ at CT
  clear hv ht
  generalize pasE (pls xs) = E at *
  generalize rdF eps t = G at *
  obtain ⟨⟨⟨ki, ka, kb, ks⟩, kl⟩, F⟩ := G
  simp only at hR HTR
  have HX := Lib.hid hx
  have hle := hx.rd.len_le
  obtain ⟨ua, uc, rfl, h1, h2, h3⟩ := hx.rd
  have H3 := Lib.hid h3; clear h3 hx
  have HR := Lib.hid hR; clear hR
  by_cases c1 : E ≠ 0
  · have hn : (E != 0) = true := by simpa using c1
    have hR2 : R = E := by rw [← HR.out, if_pos c1]
    have HR2 := Lib.hid hR2; clear hR2 HR c1
    go_enter Tryd.func16, Tryd.ntmps16
    go_wp2_with fail
    refine CP.out.mono ?_
    rintro en w1 ⟨rfl, hb1⟩
    go_wp2
    go_ret
    exact ⟨by rw [HR2.out]; rfl, hb1⟩
  have hE0 : E = 0 := by simpa using c1
  have hra := HR.out; rw [if_neg c1] at hra; have HRa := Lib.hid hra; clear hra HR c1
  subst hE0
  by_cases c2 : F ≠ 0
  · have hn : (F != 0) = true := by simpa using c2
    have hR2 : R = F := by rw [← HRa.out, if_pos c2]
    have HR2 := Lib.hid hR2; clear hR2 HRa c2
    go_enter Tryd.func16, Tryd.ntmps16
    go_wp2_with fail
    refine CP.out.mono ?_
    rintro en w1 ⟨rfl, hb1⟩
    have HB1 := Lib.hid hb1; clear hb1
    go_wp2_with fail
    refine (CT.out _ HB1.out).mono ?_
    rintro en w2 ⟨d, rfl, hrd2, hoff2, hb2⟩
    simp only at hrd2 ⊢
    have HRD2 := Lib.hid hrd2
    obtain ⟨da, dc, rfl, _, _, _⟩ := hrd2
    have hba := (br w2).alloc (Nat.le_refl _) (.cells #[.int .i64 ki, .int .i64 ka, .int .i64 kb, .int .i64 ks, .slice da kl.length dc] 30)
    have HK := Lib.hid (Box.new w2 30 [.int .i64 ki, .int .i64 ka, .int .i64 kb, .int .i64 ks, .slice da kl.length dc])
    have HBa := Lib.hid (bt (bt HB1.out hb2) hba)
    have HRDa := Lib.hid (HRD2.out.below hba)
    clear hba hoff2 hb2
    go_wp2
    go_ret
    exact ⟨by rw [HR2.out]; rfl, HBa.out⟩
  have hF0 : F = 0 := by simpa using c2
  have hrb := HRa.out; rw [if_neg c2] at hrb; have HRb := Lib.hid hrb; clear hrb HRa c2
  subst hF0
  go_enter Tryd.func16, Tryd.ntmps16
  go_wp2_with fail
  refine CP.out.mono ?_
  rintro en w1 ⟨rfl, hb1⟩
  have HB1 := Lib.hid hb1; clear hb1
  go_wp2_with fail
  refine (CT.out _ HB1.out).mono ?_
  rintro en w2 ⟨d, rfl, hrd2, hoff2, hb2⟩
  simp only at hrd2 ⊢
  have HRD2 := Lib.hid hrd2
  obtain ⟨da, dc, rfl, _, _, _⟩ := hrd2
  have hba := (br w2).alloc (Nat.le_refl _) (.cells #[.int .i64 ki, .int .i64 ka, .int .i64 kb, .int .i64 ks, .slice da kl.length dc] 30)
  have HK := Lib.hid (Box.new w2 30 [.int .i64 ki, .int .i64 ka, .int .i64 kb, .int .i64 ks, .slice da kl.length dc])
  have HBa := Lib.hid (bt (bt HB1.out hb2) hba)
  have HRDa := Lib.hid (HRD2.out.below hba)
  clear hba hoff2 hb2
  go_wp2_with fail
  generalize hWA : w2.alloc (.cells #[.int .i64 ki, .int .i64 ka, .int .i64 kb, .int .i64 ks, .slice da kl.length dc] 30) = WA at *
  clear hWA
  go_wp2
  go_loopw [13] (fun i wr => ∃ j : Nat, j ≤ xs.length ∧ i = .int .i64 j ∧ (∀ (q : Nat) (h : q < xs.length), q < j → xs[q].p.id ≠ ki) ∧ Below WA.heap.size WA wr) (fun i _ => xs.length - (intOf i).toNat)
  case atStart => exact ⟨0, Nat.zero_le _, rfl, fun q hq h => by omega, br WA⟩
  case round =>
    obtain ⟨k, hk, rfl, hall, hbw⟩ := hrel
    have HBW := Lib.hid (bt HBa.out hbw)
    have hkk := HK.out.next hbw
    have HRDw := Lib.hid (HRDa.out.below hbw)
    have HBX := Lib.hid hbw
    by_cases hlt : k < xs.length
    · obtain ⟨g, off, rfl, hbl, hc⟩ := H3.out (by omega)
      obtain ⟨q0, q1, q2, q3, q4, q5⟩ := eX_at hc k hlt
      have d0 := (HBW.out.cell (p := ⟨g, off + k * 6, none⟩) hbl).trans q0
      have d1 := (HBW.out.cell (p := ⟨g, off + k * 6 + 1, none⟩) hbl).trans q1
      have d2 := (HBW.out.cell (p := ⟨g, off + k * 6 + 2, none⟩) hbl).trans q2
      have d3 := (HBW.out.cell (p := ⟨g, off + k * 6 + 3, none⟩) hbl).trans q3
      have d4 := (HBW.out.cell (p := ⟨g, off + k * 6 + 4, none⟩) hbl).trans q4
      have d5 := (HBW.out.cell (p := ⟨g, off + k * 6 + 5, none⟩) hbl).trans q5
      have e0 := hkk.cell 0; have e1 := hkk.cell 1; have e2 := hkk.cell 2; have e3 := hkk.cell 3; have e4 := hkk.cell 4
      simp only [List.getElem?_cons_zero, List.getElem?_cons_succ] at e0 e1 e2 e3 e4
      have i1 : (k : Int) < (xs.length : Int) := by omega
      have i0 : (0 : Int) ≤ (k : Int) := by omega
      clear hc q0 q1 q2 q3 q4 q5 hkk hbw H3
      have CH := Lib.hid (fun w' (hb : Below wr.heap.size wr w') => hasR_any xs[k].p xs[k].v xs[k].l n z w' ((HX.out.ln _ (List.getElem_mem hlt)).below (bt HBW.out hb)))
      have CD := Lib.hid (fun w' (hb : Below wr.heap.size wr w') => hasDay_w (.slice da kl.length dc) kl n w' (HRDw.out.below hb))
      have HALL := Lib.hid hall
      by_cases he : xs[k].p.id = ki
      · have hbt : (xs[k].p.id == ki) = true := by simp [he]
        have hat := admT_at (r := (⟨ki, ka, kb, ks⟩, kl)) (n := n) (z := z) hlt he hall
        have hr := HRb.out
        rw [admT_some hlt hat] at hr
        rw [rawB_eq _ _ _ _ (passE_ok.1 (HTR.out (by first | rfl | trivial))).2.1, rawB_eq _ _ _ _ (passE_ok.1 (HPA.out (by first | rfl | trivial) _ (List.getElem_mem hlt))).2.1] at hr
        simp only [psOf] at hr
        have hpr : hasP ⟨ki, 1, ka, kb, ks⟩ kl n z = (decide (ka ≤ z) && (decide (z ≤ kb) && has kl n)) := rfl
        rw [hpr] at hr
        clear hat hpr hall HALL he HRb HX HPA HTR
        unfold aP Px.v at CH
        unfold Px.v at d5
        generalize hasP xs[k].p xs[k].l n z = B2 at *
        generalize has kl n = B1 at *
        generalize xs[k].p.id = t0 at *
        generalize xs[k].p.born = t1 at *
        generalize xs[k].p.a = t2 at *
        generalize xs[k].p.b = t3 at *
        generalize xs[k].p.ser = t4 at *
        generalize xs[k].a = pa at *; generalize xs[k].l.length = pl at *; generalize xs[k].cap = pc at *
        by_cases c3 : t4 ≠ ks
        · have hn : (t4 != ks) = true := by simpa using c3
          have hR2 : R = 4 := by rw [← hr, if_pos c3]
          have HR2 := Lib.hid hR2; clear hR2 hr c3
          go_wp2_with fail
          go_quiet (fail)
          go_wp2_with fail
          go_quiet (fail)
          go_wp2
          go_ret
          exact ⟨by rw [HR2.out]; rfl, by first | exact HBW.out | exact bn HBW.out _ | exact bn (bn HBW.out _) _⟩
        · have hn : (t4 != ks) = false := by simpa using c3
          rw [if_neg c3] at hr
          have HRc := Lib.hid hr; clear hr c3
          cases B2
          · have hR2 : R = 3 := by rw [← HRc.out]; cases (decide (ka ≤ z) && (decide (z ≤ kb) && B1)) <;> rfl
            have HR2 := Lib.hid hR2; clear hR2 HRc
            go_wp2_with fail
            go_quiet (fail)
            go_wp2_with fail
            go_quiet (fail)
            go_wp2_with fail
            refine (CH.out _ (by first | exact br _ | exact bn (br _) _ | exact bn (bn (br _) _) _)).mono ?_
            rintro en w5 ⟨rfl, hb5⟩
            have hb5 : Below wr.heap.size wr w5 := by first | exact hb5 | exact bt (bn (br wr) _) hb5 | exact bt (bn (bn (br wr) _) _) hb5
            have e1 := kp hb5 e1; have e2 := kp hb5 e2; have e4 := kp hb5 e4
            have HB5 := Lib.hid hb5; clear hb5
            go_wp2
            go_ret
            exact ⟨by rw [HR2.out]; rfl, bt HBW.out HB5.out⟩
          by_cases c4 : ka ≤ z
          · by_cases c5 : z ≤ kb
            · rw [decide_eq_true c4, decide_eq_true c5] at HRc
              have i7 : ¬ z < ka := by omega
              have i8 : ¬ kb < z := by omega
              cases B1
              · have hR2 : R = 3 := by rw [← HRc.out]; rfl
                have HR2 := Lib.hid hR2; clear hR2 HRc
                go_wp2_with fail
                go_quiet (fail)
                go_wp2_with fail
                go_quiet (fail)
                go_wp2_with fail
                refine (CH.out _ (by first | exact br _ | exact bn (br _) _ | exact bn (bn (br _) _) _)).mono ?_
                rintro en w5 ⟨rfl, hb5⟩
                have hb5 : Below wr.heap.size wr w5 := by first | exact hb5 | exact bt (bn (br wr) _) hb5 | exact bt (bn (bn (br wr) _) _) hb5
                have e1 := kp hb5 e1; have e2 := kp hb5 e2; have e4 := kp hb5 e4
                have HB5 := Lib.hid hb5; clear hb5
                go_wp2_with fail
                refine (CD.out _ HB5.out).mono ?_
                rintro en w6 ⟨rfl, rfl⟩
                go_wp2
                go_ret
                exact ⟨by rw [HR2.out]; rfl, bt HBW.out HB5.out⟩
              · have hR2 : R = 0 := by rw [← HRc.out]; rfl
                have HR2 := Lib.hid hR2; clear hR2 HRc
                go_wp2_with fail
                go_quiet (fail)
                go_wp2_with fail
                go_quiet (fail)
                go_wp2_with fail
                refine (CH.out _ (by first | exact br _ | exact bn (br _) _ | exact bn (bn (br _) _) _)).mono ?_
                rintro en w5 ⟨rfl, hb5⟩
                have hb5 : Below wr.heap.size wr w5 := by first | exact hb5 | exact bt (bn (br wr) _) hb5 | exact bt (bn (bn (br wr) _) _) hb5
                have e1 := kp hb5 e1; have e2 := kp hb5 e2; have e4 := kp hb5 e4
                have HB5 := Lib.hid hb5; clear hb5
                go_wp2_with fail
                refine (CD.out _ HB5.out).mono ?_
                rintro en w6 ⟨rfl, rfl⟩
                go_wp2
                go_ret
                exact ⟨by rw [HR2.out]; rfl, bt HBW.out HB5.out⟩
            · rw [decide_eq_true c4, decide_eq_false c5] at HRc
              have i7 : ¬ z < ka := by omega
              have i8 : kb < z := by omega
              have hR2 : R = 3 := by rw [← HRc.out]; rfl
              have HR2 := Lib.hid hR2; clear hR2 HRc
              go_wp2_with fail
              go_quiet (fail)
              go_wp2_with fail
              go_quiet (fail)
              go_wp2_with fail
              refine (CH.out _ (by first | exact br _ | exact bn (br _) _ | exact bn (bn (br _) _) _)).mono ?_
              rintro en w5 ⟨rfl, hb5⟩
              have hb5 : Below wr.heap.size wr w5 := by first | exact hb5 | exact bt (bn (br wr) _) hb5 | exact bt (bn (bn (br wr) _) _) hb5
              have e1 := kp hb5 e1; have e2 := kp hb5 e2; have e4 := kp hb5 e4
              have HB5 := Lib.hid hb5; clear hb5
              go_wp2
              go_ret
              exact ⟨by rw [HR2.out]; rfl, bt HBW.out HB5.out⟩
          · rw [decide_eq_false c4] at HRc
            have i7 : z < ka := by omega
            have hR2 : R = 3 := by rw [← HRc.out]; rfl
            have HR2 := Lib.hid hR2; clear hR2 HRc
            go_wp2_with fail
            go_quiet (fail)
            go_wp2_with fail
            go_quiet (fail)
            go_wp2_with fail
            refine (CH.out _ (by first | exact br _ | exact bn (br _) _ | exact bn (bn (br _) _) _)).mono ?_
            rintro en w5 ⟨rfl, hb5⟩
            have hb5 : Below wr.heap.size wr w5 := by first | exact hb5 | exact bt (bn (br wr) _) hb5 | exact bt (bn (bn (br wr) _) _) hb5
            have e1 := kp hb5 e1; have e2 := kp hb5 e2; have e4 := kp hb5 e4
            have HB5 := Lib.hid hb5; clear hb5
            go_wp2
            go_ret
            exact ⟨by rw [HR2.out]; rfl, bt HBW.out HB5.out⟩
      · have hbt : (xs[k].p.id == ki) = false := by simp [he]
        have hall2 : ∀ (q : Nat) (h : q < xs.length), q < k + 1 → xs[q].p.id ≠ ki := fun q hq hqj => by
          by_cases e : q = k
          · subst e; exact he
          · exact hall q hq (by omega)
        have HA3 := Lib.hid hall2
        clear hall2 hall he HALL d1 d2 d3 d4 d5
        generalize xs[k].p.id = aj at *
        go_wp2_with fail
        go_quiet (fail)
        go_wp2
        go_roundw
        case rel => exact ⟨k + 1, by omega, by go_num, HA3.out, by first | exact HBX.out | exact bn HBX.out _⟩
        case measure => simp [intOf]; omega
    · have hR2 : R = 5 := by rw [← HRb.out]; exact admT_none (admT_no (r := (⟨ki, ka, kb, ks⟩, kl)) (n := n) (z := z) (fun q hq _ => hall q hq (by omega)))
      have HR2 := Lib.hid hR2; clear hR2 HRb hall
      go_wp2
      go_ret
      exact ⟨by rw [HR2.out]; rfl, HBW.out⟩
end Gt
end Go.Proofs.YtdfdjampodkpgaaDoor
